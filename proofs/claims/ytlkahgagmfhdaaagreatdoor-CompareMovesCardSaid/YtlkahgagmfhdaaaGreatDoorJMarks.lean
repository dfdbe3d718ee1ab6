import Derived.Test.YtlkahgagmfhdaaaGreatDoorJAll
import Derived.Test.YtlkahgagmfhdaaaGreatDoorJUntil
set_option linter.unusedVariables false
set_option linter.unusedSimpArgs false
set_option linter.unusedSectionVars false
open List renaming getD_eq_getElem?_getD→ae,getElem?_eq_getElem→af,setIfInBounds_toArray→ag,set_cons_zero→ak,set_cons_succ→aq,finRange→ar,getElem_mem→aw,length_append→ax,append_assoc→aA,getElem?_map→aB,length_cons→aF,length_take→aG,getElem?_range→aH,mem_cons_self→aI,mem_cons_of_mem→aK,length_nil→aL,nil_append→aM,length_finRange→aO,take_add_one→aQ,range→aR,getElem?_append_left→aS,cons_append→aU,take_of_length_le→aZ,getElem?_eq_none→a_,take_append_drop→bg,mem_of_mem_take→bn,append_toArray→bp,take_succ_cons→bq,drop_succ_cons→br,size_toArray→bu,push_toArray→bv,length_range→bw,nodup_cons→bz,range_succ→bD,take_zero→bE,drop_zero→bF
open Nat renaming le_refl→ah,lt_of_lt_of_le→ai,le_trans→aj,lt_or_ge→aT,zero_add→aV,reduceAdd→bJ,reduceSub→bK
open Go.Oper renaming semAt_some→au
open Decidable renaming byContradiction→ay
open Go.World renaming setCell→az,cell?_of_block→aD,size_alloc→aJ,block_lt_of_cell?→aW,putObj→bt
open Go.Act renaming put→aC
open Go.WideShapes renaming add_plain→aN
open Go.Value renaming ownBlock→aP
open Option.some renaming inj→aX
open Array renaming getElem?_eq_none→aY,replicate_succ→bj,replicate_zero→bk
set_option maxRecDepth 100000
set_option maxHeartbeats 4000000
namespace Go.Proofs.YtlkahgagmfhdaaaGreatDoor
section
open Go.RowKit
structure gC (B:Nat) (ds:List Deferred) (w:World):Prop where
 at_:∀ d∈ds,∃ D,d={ target:=.collected D,args:=#[] }/\B<=D/\w.heap[D]? = some (.deferred (some []))
 nodup:ds.Nodup
theorem gC.nil (B:Nat)(w:World):gC B [] w:=⟨(fun _ h=>by cases h),List.nodup_nil⟩
theorem gC.same {B:Nat}{ds:List Deferred}{w w':World}(M:gC B ds w)(h:∀ D,B<=D->w.heap[D]? = some (.deferred (some []))->w'.heap[D]? = some (.deferred (some []))):gC B ds w':=
 ⟨fun d hd=>by obtain⟨D,h1,h2,h3⟩:=M.at_ d hd;exact⟨D,h1,h2,h D h2 h3⟩,M.nodup⟩
theorem gC.below {B:Nat}{ds:List Deferred}{w w':World}(M:gC B ds w)(hb:Below w.heap.size w w'):gC B ds w':=
 M.same fun D _ h=>(hb.block D (fA h)).trans h
theorem gC.cons {B D:Nat}{ds:List Deferred}{w:World}(M:gC B ds w)(hB:B<=D)(hD:w.heap[D]? = some (.deferred (some [])))(hn:∀ D',({ target:=.collected D',args:=#[] }:Deferred)∈ds->D'<D):
 gC B ({ target:=.collected D,args:=#[] } :: ds) w:=by
 refine⟨fun d hd=>?_,bz.2 ⟨fun hm=>by have:=hn D hm;omega,M.nodup⟩⟩;rcases List.mem_cons.1 hd with rfl|hd
 .exact⟨D,rfl,hB,hD⟩
 .exact M.at_ d hd
theorem vT (w:World)(D k:Nat)(o:Obj)(h:k≠D)(hk:k<w.heap.size):(w.putObj D o).heap[k]? = w.heap[k]? :=
 (grownBy_putObj' w D o).block k hk (fun e=>h (by injection e))
theorem jI {fn:Func}{tmps:Array Value}{R:Ending->World->Prop}{n B:Nat}:∀ (ds:List Deferred) (w:World),gC B ds w->
 (∀ w',w'.os=w.os->w'.tape=w.tape->w'.output=w.output->w'.heap.size=w.heap.size->(∀ k,k<w.heap.size->(∀ D,({ target:=.collected D,args:=#[] }:Deferred)∈ds->k≠D)->w'.heap[k]? = w.heap[k]?)->LeavesInM Fence.wide n Tryz.prog fn tmps R [] .returning w')->
 LeavesInM Fence.wide n Tryz.prog fn tmps R ds .returning w
 | [],w,M,h=>h w rfl rfl rfl rfl (fun _ _ _=>rfl)
 | d :: ds,w,M,h=>by
   obtain⟨D,rfl,hB,hD⟩:=M.at_ d (aI ..);have hDl:=fA hD;have uG:=bz.1 M.nodup;refine⟨by simp,.inl ⟨D,_,rfl,run_takeDeferred hD,?_⟩⟩;have hne:∀ D',({ target:=.collected D',args:=#[] }:Deferred)∈ds->D'≠D:=fun D' hm e=>by subst e;exact uG.1 hm
   refine jI (B:=B) ds _ ⟨fun d hd=>?_,uG.2⟩ (fun w' h1 h2 h3 h4 h5=>?_)
   .obtain⟨D',rfl,hB',KP⟩:=M.at_ d (aK _ hd);exact⟨D',rfl,hB',(vT w D D' _ (hne D' hd) (fA KP)).trans KP⟩
   .refine h w' h1 h2 h3 (h4.trans (by simp[bt])) (fun k hk hkn=>?_);have hkD:k≠D:=hkn D (aI ..);exact (h5 k (by simp[bt];exact hk) (fun D' hm=>hkn D' (aK _ hm))).trans (vT w D k _ hkD hk)
end
section
open Go.RowKit Go.Maps
attribute [local go_sem] au
theorem rK:∀ (N:Nat) (l:List Nat),l.Nodup->(∀ x∈l,x<N)->l.length<=N
 | 0,[],_,_=>by simp
 | 0,x :: l,_,h=>by have:=h x (aI ..);omega
 | N + 1,l,hd,h=>by
   by_cases hm:N∈l
   .have:=rK N (l.erase N) (hd.erase N) (fun x hx=>by
     have h1:=(List.Nodup.mem_erase_iff hd).1 hx;have:=h x h1.2;omega)
    rw[List.length_erase_of_mem hm]at this;omega
   .have:=rK N l hd (fun x hx=>by
     have:=h x hx;have:x≠N:=fun e=>hm (e ▸ hx);omega)
    omega
theorem om {h:HM}(f:h.Fit){l:List Nd}(hd:(eL l).Nodup)(hi:∀ x∈eL l,h.isB x=true):l.length<=2097152:=by
 rw[<-fI];refine rK _ _ hd (fun x hx=>?_);have h1:=HM.ap5 (hi x hx);have h2:=f.marks;have h4:=f.room;have h3:=f.hi;omega
theorem oZ {h:HM}{o:Nat}(hi:h.isB o=true):eR o=2:=by
 unfold HM.isB kH at hi;simp at hi;exact hi.1
structure qT (M Bh Bo:Nat) (A B:World):Prop where
 os:B.os=A.os
 tape:B.tape=A.tape
 output:B.output=A.output
 size:A.heap.size<=B.heap.size
 low:∀ k,k<M->B.heap[k]? = A.heap[k]?
 bh:B.heap[Bh]? = A.heap[Bh]?
 bo:B.heap[Bo]? = A.heap[Bo]?
 hdr:∀ g cs,eW A g 75 cs->eW B g 75 cs
theorem qT.trans {M Bh Bo:Nat}{A B C:World}(h:qT M Bh Bo A B)(k:qT M Bh Bo B C):qT M Bh Bo A C:=
 ⟨k.os.trans h.os,k.tape.trans h.tape,k.output.trans h.output,aj h.size k.size,fun i hi=>(k.low i hi).trans (h.low i hi),k.bh.trans h.bh,k.bo.trans h.bo,fun g cs b=>k.hdr g cs (h.hdr g cs b)⟩
theorem qT.book {M Bh Bo:Nat}(W:World)(l:Nat)(o o':Obj)(h1:M<=l)(h2:Bh<l)(h3:Bo<l)(hl:W.heap[l]? = some o)(hc:o.isCells=false):qT M Bh Bo W (W.putObj l o'):=by
 have hg:=grownBy_putObj' W l o';have hk:∀ k,k≠l->(W.putObj l o').heap[k]? = W.heap[k]? :=fun k hk=>by
  rcases aT k W.heap.size with h|h
  .exact hg.block k h (fun e=>by first|exact hk (aX e).symm|exact hk (aX e))
  .have e1:(W.putObj l o').heap.size=W.heap.size:=(by simp[bt]);rw[aY (by omega),aY (by omega)]
 exact⟨hg.os,hg.tape,hg.output,hg.size,fun k h=>hk k (by omega),hk _ (by omega),hk _ (by omega),fun g cs b=>b.same (hk g (fun e=>by
  subst e;have e2:=aX (hl.symm.trans b);rw[e2]at hc;cases hc))⟩
theorem iM {w:World}{base:Nat}{e:TypeId}{v:Value}{n k:Nat}{xs:List Value}(h:w.ownsRow base e 1 v n xs)(hk:v.ownBlock=some k):∃ o:Obj,w.heap[k]? = some o/\o.isCells=true:=by
 rcases h.2 with h1|⟨g',cap,cur,rfl,h2,h3,h4⟩
 .obtain⟨ha,hb⟩:=h1
  first
   | (rw[ha]at hk;simp[aP]at hk)
   | (rw[hb]at hk;simp[aP]at hk)
 .simp[aP]at hk;subst hk;exact⟨_,h3,rfl⟩
theorem qT.need {W0:World}{p:HP}{h:HM}{Bh Bo:Nat}(H:fO W0 p h)(hs:eX W0):Kv (fun A B=>qT W0.heap.size Bh Bo A B) p h Bh Bo:=
 ⟨fun k HA=>HA.same fun j hj=>k.low j (H.lt hj),fun k hA i hi=>(aD (k.low _ (aW _ _ (hs i hi)))).trans (hA i hi),
   fun k v hv=>(aD k.bh).trans hv,fun k v hv=>(aD k.bo).trans hv,fun k g cs b=>k.hdr g cs b⟩
structure E6 (W0:World) (gG mB bG:Nat) (hv vm vd:Value) (l:List Nd) (w:World):Prop where
 base:Below W0.heap.size W0 w
 graph:ra w W0.heap.size gG mB hv vm vd l
 box:eW w bG 220 #[.pointer (some ⟨gG,0,none⟩)]
theorem E6.below {W0 w w':World}{gG mB bG:Nat}{hv vm vd:Value}{l:List Nd}(S:E6 W0 gG mB bG hv vm vd l w)(hb:Below w.heap.size w w'):E6 W0 gG mB bG hv vm vd l w':=
 ⟨eF S.base hb,S.graph.below hb,S.box.below hb S.box.lt⟩
theorem GStep.far {w w':World}{B gG mB:Nat}{hv vm vd tx tv:Value}{l:List Nd}(G:ra w B gG mB hv vm vd l)(s:GStep w w' gG mB vm vd tx tv){k:Nat}(h:k<B):w'.heap[k]? = w.heap[k]? :=
 s.block k (ai h G.hB) (by have:=G.hg;omega) (by have:=G.hm;omega) (fun e=>by have:=(G.met.lt k e).1;omega) (fun e=>by have:=(G.deep.lt k e).1;omega)
theorem GStep.blk {w w':World}{B gG mB g:Nat}{hv vm vd tx tv:Value}{l:List Nd}{t:TypeId}{cs:Array Value}(G:ra w B gG mB hv vm vd l)(s:GStep w w' gG mB vm vd tx tv)(b:eW w g t cs)
 (h1:227≠t)(h2:54≠t)(h3:3≠t):w'.heap[g]? = w.heap[g]? :=
 s.block g b.lt (fun e=>by subst e;have:=G.box;unfold eW at this b;rw[this]at b;injection b with b;injection b with _ b;exact h1 b)
  (fun e=>by obtain⟨D,_,⟨es,clock,hb,r⟩,_⟩:=G.num;subst e;unfold eW at b;rw[hb]at b;injection b with b;cases b) (eU G.met b h2) (eU G.deep b h3)
theorem GStep.aqK {w w':World}{B gG mB g:Nat}{hv vm vd tx tv:Value}{l:List Nd}{t:TypeId}{cs:Array Value}(G:ra w B gG mB hv vm vd l)(s:GStep w w' gG mB vm vd tx tv)(b:eW w g t cs)
 (h1:227≠t)(h2:54≠t)(h3:vd.ownBlock≠some g):w'.heap[g]? = w.heap[g]? :=
 s.block g b.lt (fun e=>by subst e;have:=G.box;unfold eW at this b;rw[this]at b;injection b with b;injection b with _ b;exact h1 b)
  (fun e=>by obtain⟨D,_,⟨es,clock,hb,r⟩,_⟩:=G.num;subst e;unfold eW at b;rw[hb]at b;injection b with b;cases b) (eU G.met b h2) h3
theorem E6.step {W0 w w':World}{gG mB bG:Nat}{hv vm vd tx tv:Value}{l l':List Nd}(S:E6 W0 gG mB bG hv vm vd l w)(G:ra w' W0.heap.size gG mB hv tx tv l')(s:GStep w w' gG mB vm vd tx tv):E6 W0 gG mB bG hv tx tv l' w':=
 ⟨⟨s.os.trans S.base.os,s.tape.trans S.base.tape,s.output.trans S.base.output,aj S.base.size s.size,fun k hk=>(s.far S.graph hk).trans (S.base.block k hk)⟩,G,S.box.same (s.blk S.graph S.box (by decide) (by decide) (by decide))⟩
theorem gC.gstep {W0 w w':World}{gG mB:Nat}{B:Nat}{hv vm vd tx tv:Value}{l:List Nd}{ds:List Deferred}(M:gC B ds w)(G:ra w W0.heap.size gG mB hv vm vd l)(s:GStep w w' gG mB vm vd tx tv):gC B ds w':=
 M.same fun D _ h=>by
  refine (s.block D (fA h) (fun e=>?_) (fun e=>?_) (fun e=>?_) (fun e=>?_)).trans h
  .subst e;have:=G.box;unfold eW at this;rw[this]at h;injection h with h;cases h
  .obtain⟨D',_,⟨es,clock,hb,r⟩,_⟩:=G.num;subst e;rw[hb]at h;injection h with h;cases h
  .obtain⟨o,ho,hc⟩:=iM G.met e;rw[ho]at h;injection h with h;subst h;cases hc
  .obtain⟨o,ho,hc⟩:=iM G.deep e;rw[ho]at h;injection h with h;subst h;cases hc
theorem uZ {h:HM}{fr:List Nat}(hf:h.apn fr=true):∀ o∈fr,eR o=2->h.isB o=true:=by
 intro o ho hk;unfold HM.apn at hf;simp at hf;have:=hf o ho;unfold HM.apc kH at this;simp[hk]at this;exact this
theorem HM.aqG {h:HM}(f:h.Fit)(o k:Nat):fw h o k<4294967296:=f.w _
theorem HM.apL {h:HM}(f:h.Fit)(o k:Nat):h.ao_ o k<4294967296:=by
 unfold HM.ao_;split
 .exact (HM.apR f _).cls
 .exact HM.aqG f _ _
theorem JJ {h:HM}{ls:List Ob}(G:h.Good ls){o:Nat}(hi:h.isB o=true){k:Nat}(hk:k<h.nmN o):h.apc (h.ao_ o k)=true:=by
 obtain⟨a,b,c,rfl,rfl⟩:=(G.laid.apr o).1 hi;have kM:b∈a++b :: c:=by simp
 unfold HM.nmN at hk;unfold HM.ao_;rw[fT,G.laid.apF]at*;split
 .have:=G.sound.cls b kM;unfold HM.apo at this;unfold HM.apc;by_cases h0:b.x.cls=0
  .rw[h0];rfl
  .simp[h0]at this;rw[this];simp
 .rename_i KX;cases hp:b.x.apb
  .rw[hp]at hk;simp at hk;omega
  .rw[hp]at hk;simp only[if_true]at hk;have hsz:=(G.laid.ok b kM).size;rw[G.laid.aqp (k-1) (by omega)];have hlt:k-1<b.fs.length:=(by omega);refine G.sound.apU b kM hp _ ?_;rw[ae,af hlt];exact aw _
theorem pX {h:HM}{ls:List Ob}(G:h.Good ls){o:Nat}(hi:h.isB o=true){k:Nat}(hk:k<h.nmN o)(h2:eR (h.ao_ o k)=2):h.isB (h.ao_ o k)=true:=by
 have:=JJ G hi hk;unfold HM.apc kH at this;simp[h2]at this;exact this
theorem zS {h:HM}(f:h.Fit)(o:Nat)(hi:h.apS (o/2)):h.nmN o<=1048577:=by
 have h1:=hi.1;have h3:=f.room;have h4:=f.hi;unfold HM.nmN;split <;> omega
def nS (nA:Nat->Nat->Nat)(l:List Nd)(i:Nat)(pre:List Nat):List Nd:=
 pre.foldl (fun acc k=>fK acc (nA (l.getD i default).o k) (i:Int) ((k:Int)-1) ((l.getD i default).deep+1)) l
theorem zP (nA:Nat->Nat->Nat)(l:List Nd)(i:Nat)(pre:List Nat)(k:Nat):nS nA l i (pre++[k])=fK (nS nA l i pre) (nA (l.getD i default).o k) (i:Int) ((k:Int)-1) ((l.getD i default).deep+1):=by
 unfold nS;rw[List.foldl_append];rfl
theorem rG (nA:Nat->Nat->Nat)(l:List Nd)(i:Nat):∀ n,nS nA l i (aR n)=j5 nA l i n
 | 0=>rfl
 | n+1=>by rw[bD,zP,rG nA l i n];rfl
theorem JC (nA:Nat->Nat->Nat){l:List Nd}(i:Nat)(h0:∀ x∈eL l,eR x=2):∀ pre:List Nat,∀ x∈eL (nS nA l i pre),eR x=2:=by
 intro pre;unfold nS;generalize (l.getD i default).deep+1=d;generalize (l.getD i default).o=o
 revert h0
 generalize l=l0
 induction pre generalizing l0 with
 | nil=>exact fun h=>h
 | cons k pre ih=>exact fun h0=>ih _ (my h0 (fun h=>h) _ _ _)
theorem MZ (nA:Nat->Nat->Nat)(l:List Nd)(i:Nat)(pre:List Nat):l <+: nS nA l i pre:=by
 unfold nS;generalize (l.getD i default).deep+1=d;generalize (l.getD i default).o=o;generalize l=l0
 induction pre generalizing l0 with
 | nil=>exact List.prefix_refl _
 | cons k pre ih=>exact (kr _ _ _ _ _).trans (ih _)
theorem MX (nA:Nat->Nat->Nat)(l:List Nd)(i:Nat)(pre:List Nat):(nS nA l i pre).length<=l.length+pre.length:=by
 unfold nS;generalize (l.getD i default).deep+1=d;generalize (l.getD i default).o=o;generalize l=l0
 induction pre generalizing l0 with
 | nil=>simp
 | cons k pre ih=>
   refine aj (ih _) ?_;have:=(MW l0 (nA o k) (i:Int) ((k:Int)-1) d).2;simp;omega
theorem fF {w:World}{base:Nat}{e:TypeId}{v:Value}{n:Nat}{xs:List Value}(h:w.ownsRow base e 1 v n xs):∃ A c,v= .slice A n c/\eQ w w.heap.size 1 A n xs:=by
 rcases Nat.eq_zero_or_pos n with h0|h0
 .have hx:xs=[]:=List.eq_nil_of_length_eq_zero (by have:=h.1;omega);subst hx;subst h0;rcases h.2 with ⟨h1,_⟩|⟨g,cap,cur,rfl,_⟩
  .exact⟨none,0,h1,rfl,fun hh=>by omega⟩
  .exact⟨some ⟨g,0,none⟩,cap,rfl,rfl,fun hh=>by omega⟩
 .obtain⟨g,c,rfl,hr,hx,hb⟩:=Row.apk h h0;refine⟨some ⟨g,0,none⟩,c,rfl,?_⟩;rw[<-hx];exact hr.reads (h.lt g rfl).2
section
variable {W0 w w':World}{gG mB bG:Nat}{hv vm vd tx tv:Value}{l l':List Nd}
theorem E6.apw {B:Nat}{row:Option Nat}(S:E6 W0 gG mB bG hv vm vd l w)(hm:mB<B)(hB:W0.heap.size<=B)(hg:w.grownBy w' row)(hr:∀ r,row=some r->B<=r/\∃ o:Obj,w.heap[r]? = some o/\o.isCells=false):E6 W0 gG mB bG hv vm vd l w':=by
 have hc:∀ g cs t,eW w g t cs->w'.heap[g]? = w.heap[g]? :=fun g cs t b=>hg.block g b.lt (fun e=>by
  obtain⟨_,o,ho,hc⟩:=hr g e.symm;unfold eW at b;rw[b]at ho;injection ho with ho;subst ho;cases hc)
 have ho:∀ {e n xs} {v:Value},w.ownsRow W0.heap.size e 1 v n xs->∀ k,v.ownBlock=some k->w'.heap[k]? = w.heap[k]? :=fun h k hk=>hg.block k (h.lt k hk).2 (fun e=>by
  obtain⟨_,o,ho,hc⟩:=hr k e.symm;obtain⟨o',l_,hc'⟩:=iM h hk;rw[l_]at ho;injection ho with ho;subst ho;rw[hc']at hc;cases hc)
 refine⟨⟨hg.os.trans S.base.os,hg.tape.trans S.base.tape,hg.output.trans S.base.output,aj S.base.size hg.size,fun k hk=>(hg.block k (ai hk S.base.size) (fun e=>by have:=(hr k e.symm).1;omega)).trans (S.base.block k hk)⟩,?_,S.box.same (hc _ _ _ S.box)⟩;exact⟨S.graph.box.same (hc _ _ _ S.graph.box),fB S.graph.met (ho S.graph.met),fB S.graph.deep (ho S.graph.deep),S.graph.num.same (hg.block mB S.graph.num.lt (fun e=>by have:=(hr mB e.symm).1;omega)),S.graph.hg,S.graph.hm,aj S.graph.hB hg.size⟩
theorem gC.apw {B0 B:Nat}{row:Option Nat}{ds:List Deferred}(M:gC B0 ds w)(hd:∀ D,({ target:=.collected D,args:=#[] }:Deferred)∈ds->D<B)(hg:w.grownBy w' row)(hr:∀ r,row=some r->B<=r/\∃ o:Obj,w.heap[r]? = some o/\o.isCells=false):gC B0 ds w':=by
 refine⟨fun d hdm=>?_,M.nodup⟩;obtain⟨D,rfl,h2,h3⟩:=M.at_ d hdm;exact⟨D,rfl,h2,(hg.block D (fA h3) (fun e=>by have:=(hr D e.symm).1;have:=hd D hdm;omega)).trans h3⟩
theorem ir {B g:Nat}{row:Option Nat}{t:TypeId}{cs:Array Value}(b:eW w g t cs)(hg:w.grownBy w' row)(hr:∀ r,row=some r->B<=r/\∃ o:Obj,w.heap[r]? = some o/\o.isCells=false):eW w' g t cs:=
 b.same (hg.block g b.lt (fun e=>by
  obtain⟨_,o,ho,hc⟩:=hr g e.symm;unfold eW at b;rw[b]at ho;injection ho with ho;subst ho;cases hc))
theorem GStep.keeps {B:Nat}(G:ra w W0.heap.size gG mB hv vm vd l)(s:GStep w w' gG mB vm vd tx tv)(hm:mB<B):KeepsFrom B w w':=by
 refine⟨s.size,fun k o hk ho hc=>(s.block k (fA ho) (fun e=>?_) (by omega) (fun e=>?_) (fun e=>?_)).trans ho⟩
 .subst e;have:=G.box;unfold eW at this;rw[this]at ho;injection ho with ho;subst ho;cases hc
 .obtain⟨o',l_,hc'⟩:=iM G.met e;rw[ho]at l_;injection l_ with l_;subst l_;rw[hc]at hc';cases hc'
 .obtain⟨o',l_,hc'⟩:=iM G.deep e;rw[ho]at l_;injection l_ with l_;subst l_;rw[hc]at hc';cases hc'
theorem GStep.kpG {Bh Bo:Nat}{ch co:Array Value}(G:ra w W0.heap.size gG mB hv vm vd l)(s:GStep w w' gG mB vm vd tx tv)(bh:eW w Bh 23 ch)(bo:eW w Bo 54 co)(hne:vm.ownBlock≠some Bo):qT W0.heap.size Bh Bo w w':=
 ⟨s.os,s.tape,s.output,s.size,fun k hk=>s.far G hk,s.blk G bh (by decide) (by decide) (by decide),
   s.block Bo bo.lt (fun e=>by subst e;have:=G.box;unfold eW at this bo;rw[this]at bo;injection bo with bo;injection bo with _ bo;revert bo;decide)
    (fun e=>by obtain⟨D,_,⟨es,clock,hb,r⟩,_⟩:=G.num;subst e;unfold eW at bo;rw[hb]at bo;injection bo with bo;cases bo) hne (eU G.deep bo (by decide)),
   fun g cs b=>b.same (s.blk G b (by decide) (by decide) (by decide))⟩
theorem qT.apa {M Bh Bo:Nat}(hb:Below w.heap.size w w')(hM:M<=w.heap.size)(h1:Bh<w.heap.size)(h2:Bo<w.heap.size):qT M Bh Bo w w':=
 ⟨hb.os,hb.tape,hb.output,hb.size,fun k hk=>hb.block k (by omega),hb.block _ h1,hb.block _ h2,fun g cs b=>b.below hb b.lt⟩
theorem KeepsFrom.apa {B:Nat}(hb:Below w.heap.size w w'):KeepsFrom B w w':=⟨hb.size,fun k o _ ho _=>(hb.block k (fA ho)).trans ho⟩
theorem ra.left {B:Nat}{ds:List Deferred}{B0:Nat}(G:ra w B gG mB hv vm vd l)(M:gC B0 ds w)(hs:w'.heap.size=w.heap.size)(hk:∀ k,k<w.heap.size->(∀ D,({ target:=.collected D,args:=#[] }:Deferred)∈ds->k≠D)->w'.heap[k]? = w.heap[k]?):ra w' B gG mB hv vm vd l:=by
 have hne:∀ {k:Nat} {o:Obj},w.heap[k]? = some o->(o.isCells=true\/∃ es c,o= .map es c)->∀ D,({ target:=.collected D,args:=#[] }:Deferred)∈ds->k≠D:=fun {k o} ho hc D hD e=>by
  obtain⟨D',h1,_,h3⟩:=M.at_ _ hD;injection h1 with h1;injection h1 with h1;subst h1;subst e;rw[ho]at h3;injection h3 with h3;subst h3;rcases hc with hc|⟨es,c,hc⟩
  .cases hc
  .cases hc
 have hown:∀ {e n xs} {v:Value},w.ownsRow B e 1 v n xs->∀ k,v.ownBlock=some k->w'.heap[k]? = w.heap[k]? :=fun h k p_=>by
  obtain⟨o,ho,hc⟩:=iM h p_;exact hk k (fA ho) (hne ho (.inl hc))
 refine⟨G.box.same (hk _ G.box.lt (hne G.box (.inl rfl))),fB G.met (hown G.met),fB G.deep (hown G.deep),G.num.same ?_,G.hg,G.hm,by have:=G.hB;omega⟩;obtain⟨D,_,⟨es,clock,hb,r⟩,_⟩:=G.num;exact hk mB (fA hb) (hne hb (.inr ⟨_,_,rfl⟩))
theorem pV {ds:List Deferred}(hb:Below W0.heap.size W0 w)(M:gC W0.heap.size ds w)(h1:w'.os=w.os)(h2:w'.tape=w.tape)(h3:w'.output=w.output)(hs:w'.heap.size=w.heap.size)
 (hk:∀ k,k<w.heap.size->(∀ D,({ target:=.collected D,args:=#[] }:Deferred)∈ds->k≠D)->w'.heap[k]? = w.heap[k]?):Below W0.heap.size W0 w':=
 ⟨h1.trans hb.os,h2.trans hb.tape,h3.trans hb.output,by have:=hb.size;omega,fun k p_=>(hk k (ai p_ hb.size) (fun D hD e=>by
   obtain⟨D',e1,e2,_⟩:=M.at_ _ hD;injection e1 with e1;injection e1 with e1;omega)).trans (hb.block k p_)⟩
end
theorem r8 {F:Fence}{n:Nat}{P:Program}{Q:Exit->Act->World->Prop}{a:Act}{w:World}{c:Code}(I:Nat->Act->World->Prop)(j:Nat)(h0:I j a w)
 (round:∀ j a w,I j a w->c.wpIn F n P (Exit.then (fun a' w'=>∃ j',j'<j/\I j' a' w') Q) a w):(Code.loop c).wpIn F n P Q a w:=by
 have least:∀ (j:Nat) (a:Act) (w:World),I j a w->∃ j',I j' a w/\∀ k,I k a w->j'<=k:=by
  intro j
  induction j using Nat.strongRecOn with
  | _ j ih=>
    intro a w h;by_cases hk:∃ k,k<j/\I k a w
    .obtain⟨k,h1,h2⟩:=hk;exact ih k h1 a w h2
    .exact⟨j,h,fun k h2=>Nat.le_of_not_lt (fun h1=>hk ⟨k,h1,h2⟩)⟩
 have Jw:∀ (a:Act) (w:World),∃ m:Nat,(∃ j,I j a w)->I m a w/\∀ k,I k a w->m<=k:=fun a w=>by
  by_cases h:∃ j,I j a w
  .obtain⟨j,h⟩:=h;obtain⟨m,h1⟩:=least j a w h;exact⟨m,fun _=>h1⟩
  .exact⟨0,fun h'=>absurd h' h⟩
 refine wpIn_loop (fun a w=>∃ j,I j a w) (fun a w=>Classical.choose (Jw a w)) ⟨j,h0⟩ (fun a w hI=>?_);have hm:=Classical.choose_spec (Jw a w) hI;refine wpIn_mono (round _ a w hm.1) (fun e a' w' h=>?_)
 cases e with
 | normal=>
   obtain⟨j',h1,h2⟩:=h;have hm':=Classical.choose_spec (Jw a' w') ⟨j',h2⟩;exact⟨⟨j',h2⟩,Nat.lt_of_le_of_lt (hm'.2 j' h2) h1⟩
 | _=>exact h
theorem sG (g o:Nat)(w:World):Calls Tryz.prog 135 #[ptr g,.int .u32 o] w fun e w'=>e= .returned (.func (.func 192) #[] #[.pointer (some ⟨w.heap.size,0,none⟩),.pointer (some ⟨w.heap.size+1,0,none⟩)])/\w'=(w.alloc (.cells #[ptr g] 23)).alloc (.cells #[.int .u32 o] 54):=by
 unfold ptr;go_enter Tryz.func135,Tryz.ntmps135;go_wp2_with fail;go_ret;exact⟨rfl,rfl⟩
end
section
open Go.RowKit Go.Maps Go.Sort
attribute [local go_sem] au
theorem rO {l:List Nd}{i:Nat}(hi:i<l.length):(eL l).getD i 0=(l.getD i default).o:=by
 unfold eL;rw[ae,ae,aB,af hi];rfl
theorem zW {l:List Nd}{i:Nat}(hi:i<l.length):(l.getD i default).o∈eL l:=by
 unfold eL;rw[ae,af hi];exact List.mem_map_of_mem (aw hi)
theorem Eu {l:List Nd}{i:Nat}(hi:i<l.length):(ol l).getD i 0=(l.getD i default).deep:=by
 unfold ol;rw[ae,ae,aB,af hi];rfl
theorem Rk {l l':List Nd}(h:l <+: l'){i:Nat}(hi:i<l.length):l'.getD i default=l.getD i default:=by
 obtain⟨r,rfl⟩:=h;rw[ae,ae,aS hi]
theorem zO {l:List Nd}{B:Nat}(h:∀ nd∈l,nd.deep<=B)(o:Nat)(p f:Int){d:Nat}(hd:d<=B):∀ nd∈fK l o p f d,nd.deep<=B:=by
 intro nd uG;unfold fK at uG;split at uG
 .rcases List.mem_append.1 uG with h1|h1
  .exact h nd h1
  .simp at h1;subst h1;exact hd
 .exact h nd uG
theorem zN (fr:List Nat):∀ k,∀ nd∈iX fr k,nd.deep<=0+1
 | 0=>fun nd h=>by simp[iX]at h
 | k+1=>zO (zN fr k) _ _ _ (ah _)
theorem JB (nA:Nat->Nat->Nat){l:List Nd}{i:Nat}(h:∀ nd∈l,nd.deep<=i+1)(hi:i<l.length)(pre:List Nat):∀ nd∈nS nA l i pre,nd.deep<=i+1+1:=by
 have hd:(l.getD i default).deep<=i+1:=by
  rw[ae,af hi];exact h _ (aw _)
 have h0:∀ nd∈l,nd.deep<=i+1+1:=fun nd hn=>by have:=h nd hn;omega
 clear h;unfold nS;generalize (l.getD i default).deep=d at*;generalize (l.getD i default).o=o at*
 revert h0
 clear hi;generalize l=l0
 induction pre generalizing l0 with
 | nil=>exact fun h=>h
 | cons k pre ih=>exact fun h0=>ih _ (zO h0 _ _ _ (by omega))
theorem MO {xs:List Nat}{i:Nat}(h:i<xs.length):(qh xs)[i]? = some (.int .i64 ((xs.getD i 0:Nat):Int)):=by
 unfold qh;rw[aB,af h,ae,af h];rfl
def xp (h:HM)(l:List Nd):Prop:=l.length<=65536/\(eL l).Nodup/\(∀ x∈eL l,h.isB x=true)/\(∀ nd∈l,nd.deep<=65537)
def aaU (p:HP)(h:HM)(fr:List Nat)(w:World)(e:Ending)(w':World):Prop:=
 Below w.heap.size w w'/\((h.apn fr=false/\e= .returned (.tuple #[.pointer none,.int .i64 3]))\/
  (h.apn fr=true/\f_ h.nmN h.ao_ fr=none/\e= .returned (.tuple #[.pointer none,.int .i64 2]))\/
  (h.apn fr=true/\∃ l gG mB vm vd,f_ h.nmN h.ao_ fr=some l/\xp h l/\e= .returned (.tuple #[.pointer (some ⟨gG,0,none⟩),.int .i64 0])/\ra w' w.heap.size gG mB (ptr p.g) vm vd l))
theorem Ho {w:World}{p:HP}{h:HM}{ls:List Ob}(H:fO w p h)(G:h.Good ls)(hh:h.apu)(hs:eX w)(A:Option Addr)(n c:Nat)(fr:List Nat)(hn:n<=9223372036854775807)(hr:eQ w w.heap.size 1 A n (eN fr))(h32:∀ x∈fr,x<4294967296):
 Calls Tryz.prog 132 #[ptr p.g,.slice A n c] w (aaU p h fr w):=by
 have f:=G.fit;have hl:fr.length=n:=by have:=hr.1;rw[eY]at this;omega
 have Ct:=aa (wM H f A n c fr hn hr h32);have HL:=aa hl;have HR:=aa hr;have HX:=aa h32;have HH:=aa H;clear hl hr h32 H;refine (callsIn_wide (n:=6)).1 ?_;refine callsIn_of_wp_marks Tryz.func132 rfl trivial ?_ rfl;simp only[Tryz.ntmps132,bu,aF,aL,bJ,bK,bj,bk,bv,bp,aM,aU];unfold ptr at Ct ⊢;cases kJ:h.apn fr
 .rw[kJ]at Ct;gi_wp2_with fail;refine⟨trivial,(callsIn_wide.2 Ct.o).mono ?_⟩;rintro e w1 ⟨rfl,hb1⟩;gi_wp2_with fail;refine⟨.tuple #[.pointer none,.int .i64 3],by simp[results,Tryz.results132,go_sem],?_⟩;exact⟨hb1,.inl ⟨kJ,rfl⟩⟩
 .rw[kJ]at Ct;gi_wp2_with fail;refine⟨trivial,(callsIn_wide.2 Ct.o).mono ?_⟩;rintro e w1 ⟨rfl,hb1⟩;have SC:=@run_makeMap Tryz.prog;gi_wp2_with fail;clear SC;have xt:=aa (show E6 w (w1.heap.size+1) w1.heap.size (w1.heap.size+1+1) (.pointer (some ⟨p.g,0,none⟩)) (.slice none 0 0) (.slice none 0 0) [] (((w1.alloc (.map #[] 0)).alloc (.cells #[.pointer (some ⟨p.g,0,none⟩),.slice none 0 0,.map (some w1.heap.size),.slice none 0 0] 227)).alloc (.cells #[.pointer (some ⟨w1.heap.size+1,0,none⟩)] 220)) from by
   have hsz:=hb1.size;refine⟨((hb1.alloc hb1.size _).alloc (by simp;omega) _).alloc (by simp;omega) _,⟨?_,⟨rfl,.inl ⟨rfl,rfl⟩⟩,⟨rfl,.inl ⟨rfl,rfl⟩⟩,?_,by omega,by omega,by simp;omega⟩,?_⟩
   .have:=(eW.new (w1.alloc (.map #[] 0)) 227 #[.pointer (some ⟨p.g,0,none⟩),.slice none 0 0,.map (some w1.heap.size),.slice none 0 0]).alloc (.cells #[.pointer (some ⟨w1.heap.size+1,0,none⟩)] 220);rw[aJ]at this;exact this
   .refine iV.below (w:=w1.alloc (.map #[] 0)) ((iV.made w1 _).ext (fun _=>rfl) (fun x=>by simp[eL])) (((Below.refl _ _).alloc (ah _) _).alloc (by simp) _)
   .have:=eW.new ((w1.alloc (.map #[] 0)).alloc (.cells #[.pointer (some ⟨p.g,0,none⟩),.slice none 0 0,.map (some w1.heap.size),.slice none 0 0] 227)) 220 #[.pointer (some ⟨w1.heap.size+1,0,none⟩)];rw[aJ,aJ]at this;exact this)
  have Fj:=aa (uZ kJ);have hgb:w.heap.size<=w1.heap.size:=hb1.size;generalize hmB:w1.heap.size=mB at*;generalize ((w1.alloc (.map #[] 0)).alloc (.cells #[.pointer (some ⟨p.g,0,none⟩),.slice none 0 0,.map (some mB),.slice none 0 0] 227)).alloc (.cells #[.pointer (some ⟨mB+1,0,none⟩)] 220)=w2 at*;clear hb1 hmB
  gi_loopw [8,22] (fun v i wr=>∃ k:Nat,k<=n/\i= .int .i64 k/\∃ vm vd,E6 w (mB+1) mB (mB+1+1) (.pointer (some ⟨p.g,0,none⟩)) vm vd (iX fr k) wr) (fun _ i _=>n-(intOf i).toNat)
  case atStart=>exact⟨0,by omega,rfl,_,_,xt.o⟩
  case round=>
   clear xt;obtain⟨k,hk,rfl,vm,vd,S⟩:=hrel;by_cases hlt:k<n
   .obtain⟨ad,u0,rfl,hblk,hx,hcell⟩:=(HR.o.below S.base).at_ hlt;rw[ft (by rw[HL.o];exact hlt)]at hx;injection hx with hx;subst hx;have kM:fr.getD k 0∈fr:=by
     rw[ae,af (by rw[HL.o];exact hlt)];exact aw _
    have ho:=HX.o _ kM;have Mo:=S.box.cell 0;have HM:=aa (vF S.graph (lI fr (fun o _ hk=>hk) k (by rw[HL.o];exact hk)) (fr.getD k 0) ho 1 (by omega) (by have:=om f (ou fr k) (lI fr Fj.o k (by rw[HL.o];exact hk));omega) (-1) (k:Int));have Om:=aa S;clear S kM;rw[show fK (iX fr k) (fr.getD k 0) (-1) (k:Int) 1=iX fr (k+1) from rfl]at HM;generalize fr.getD k 0=y at*;gi_wp2_with fail;refine⟨trivial,(callsIn_wide.2 HM.o).mono ?_⟩;rintro e w5 ⟨rfl,tx,tv,G',s'⟩;have nG:=aa (Om.o.step G' s');clear G' s' hcell Mo;gi_wp2_with fail;go_roundw
    case rel=>exact⟨k+1,by omega,by go_num,tx,tv,nG.o⟩
    case measure=>simp[intOf];omega
   .obtain rfl:k=n:=(by omega);have Om:=aa S;clear S hk hlt;gi_wp2_with fail;refine r8 (fun j a W=>∃ (i bI:Nat) (ds:List Deferred) (vm vd:Value) (l:List Nd) (u30 u31 u32 u33 u34 u35 u36 u37 u38 u39 u40 u41 u42 u43 u44 u45 u46 u47 u61 u62 u63 u64 u65 u66 u67:Value),a={ tmps:=#[.pointer (some ⟨p.g,0,none⟩),.slice A k c,undef,undef,.pointer none,.int .i64 0,.pointer (some ⟨mB+1+1,0,none⟩),undef,u8,.pointer (some ⟨bI,0,none⟩),undef,undef,.pointer (some ⟨p.g,0,none⟩),.slice A k c,.bool true,.bool false,.pointer (some ⟨p.g,0,none⟩),.map (some mB),.agg #[.pointer (some ⟨p.g,0,none⟩),.slice none 0 0,.map (some mB),.slice none 0 0],.pointer (some ⟨mB+1,0,none⟩),.slice A k c,.int .i64 (k:Int),.int .i64 (k:Int),.bool false,u24,u25,u26,u27,u28,u29,u30,u31,u32,u33,u34,u35,u36,u37,u38,u39,u40,u41,u42,u43,u44,u45,u46,u47,undef,undef,undef,undef,undef,undef,undef,undef,undef,undef,undef,undef,undef,u61,u62,u63,u64,u65,u66,u67,undef,undef,undef,undef,undef,undef,undef],defers:=ds }/\j=65538-i/\rc h.nmN h.ao_ fr i l/\(∀ x∈eL l,h.isB x=true)/\(∀ nd∈l,nd.deep<=i+1)/\E6 w (mB+1) mB (mB+1+1) (.pointer (some ⟨p.g,0,none⟩)) vm vd l W/\eW W bI 3 #[.int .i64 i]/\gC w.heap.size ds W/\vd.ownBlock≠some bI) 65538 ?start ?round
    case start=>
     refine⟨0,wr.heap.size,[],vm,vd,_,_,_,_,_,_,_,_,_,_,_,_,_,_,_,_,_,_,_,_,_,_,_,_,_,_,rfl,rfl,rc.start h.nmN h.ao_ fr,lI fr Fj.o _ (ah _),zN fr _,?_,eW.new wr _ _,gC.nil _ _,fun e=>by have:=(Om.o.graph.deep.lt _ e).2;omega⟩;rw[HL.o];exact Om.o.below ((Below.refl _ _).alloc (ah _) _)
    case round=>
     clear Om;rintro j a W ⟨i,bI,ds,vm,vd,l,u30,u31,u32,u33,u34,u35,u36,u37,u38,u39,u40,u41,u42,u43,u44,u45,u46,u47,u61,u62,u63,u64,u65,u66,u67,rfl,hj,hG,EC,hdp,S,BI,MK,hvb⟩;have HG:=aa hG;have HI:=aa EC;have HDP:=aa hdp;have HS:=aa S;have HB:=aa BI;have HM:=aa MK;have HJ:=aa hj;obtain⟨Am,cm,rfl,Up⟩:=fF S.graph.met;obtain⟨Ad,cd,rfl,tH⟩:=fF S.graph.deep;have Up:=aa Up;have tH:=aa tH;have k0:W.cell? ⟨bI,0,none⟩=some (.int .i64 (i:Int)):=BI.cell 0;have k1:W.cell? ⟨mB+1+1,0,none⟩=some (.pointer (some ⟨mB+1,0,none⟩)):=S.box.cell 0;have k2:W.cell? ⟨mB+1,1,none⟩=some (.slice Am l.length cm):=S.graph.box.cell 1;have Mw:=om f hG.nodup EC;have hi5:i<=65537:=(by have h1:=hG.le;rcases hG.short with e|e <;> omega);clear hG EC hdp S BI MK hj;by_cases hlt:i<l.length
     .have hd:decide ((i:Int)<(l.length:Int))=true:=(by simp;omega);have tz:=aa hlt;gi_wp2_with fail
      gi_region
      gi_wp2_with fail;obtain⟨ad,u0,rfl,_,hx,hcell⟩:=Up.o.at_ hlt;have jv:Below W.heap.size W W.drew:=⟨rfl,rfl,rfl,ah _,fun _ _=>rfl⟩;replace HS:=aa (HS.o.below jv);replace HB:=aa (HB.o.below jv HB.o.lt);replace HM:=aa (HM.o.below jv);replace k0:W.drew.cell? ⟨bI,0,none⟩=some (.int .i64 (i:Int)):=k0;replace k1:W.drew.cell? ⟨mB+1+1,0,none⟩=some (.pointer (some ⟨mB+1,0,none⟩)):=k1;replace k2:W.drew.cell? ⟨mB+1,1,none⟩=some (.slice (some ad) l.length cm):=k2;replace hcell:W.drew.cell? (ad.add i)=some u0:=hcell;clear jv;generalize W.drew=W at*;rw[ft (by rw[fI];exact hlt),rO hlt]at hx;injection hx with hx;subst hx;have EC:=HI.o _ (zW hlt);have HO:=aa EC;clear EC;generalize hoo:(l.getD i default).o=o at*;have Vh:=aa hoo;clear hoo;replace k0:=cell_regrown k0;replace k1:=cell_regrown k1;replace k2:=cell_regrown k2;replace hcell:=cell_regrown hcell;refine wpIn_wide.2 ?_;refine wp_region_below_tail 8 (by kernel_rfl) (by kernel_rfl) ?_;simp only[bq,bE,br,bF];repeat (quiet_step (fail))
      refine wpQuiet_nil ?_;intro wq VV;obtain⟨⟨dq,osq⟩,hw''⟩:=VV;subst hw'';have qU:=below_regrown W dq osq;have qI:=aa (HS.o.below qU);have ig:=aa (HB.o.below qU HB.o.lt);have WH:=aa (HM.o.below qU);clear k0 k1 k2 hcell Up tH qU HS HB HM;generalize grow (redrawn W dq) osq=W3 at*;go_wp2_with fail;refine (sG p.g o W3).mono ?_;rintro e W4 ⟨rfl,rfl⟩;go_wp2_with fail;have oo:Below W3.heap.size W3 ((W3.alloc (.cells #[.pointer (some ⟨p.g,0,none⟩)] 23)).alloc (.cells #[.int .u32 (o:Nat)] 54)):=((Below.refl _ _).alloc (ah _) _).alloc (by simp) _;have BH:=(eW.new W3 23 #[.pointer (some ⟨p.g,0,none⟩)]).alloc (.cells #[.int .u32 (o:Nat)] 54);have BO:=eW.new (W3.alloc (.cells #[.pointer (some ⟨p.g,0,none⟩)] 23)) 54 #[.int .u32 (o:Nat)];rw[aJ]at BO;have xu:=aa (qI.o.below oo);have yM:=aa (ig.o.below oo ig.o.lt);have HM4:=aa (WH.o.below oo);have hmo:(Value.slice (some ad) l.length cm).ownBlock≠some (W3.heap.size+1):=fun e=>by
       have:=(qI.o.graph.met.lt _ e).2;omega
      have Oq:∀ D,({ target:=.collected D,args:=#[] }:Deferred)∈ds->D<W3.heap.size:=fun D hD=>by
       obtain⟨D',h1,_,h3⟩:=WH.o.at_ _ hD;injection h1 with h1;injection h1 with h1;subst h1;exact fA h3
      unfold ptr;generalize Sy:(W3.alloc (.cells #[.pointer (some ⟨p.g,0,none⟩)] 23)).alloc (.cells #[.int .u32 (o:Nat)] 54)=W4 at*;have Ze:W4.heap.size=W3.heap.size+2:=(by rw[<-Sy];simp);have ahh:mB<W3.heap.size:=qI.o.graph.num.lt;have hw3:w.heap.size<=W3.heap.size:=qI.o.base.size;generalize W3.heap.size=Bh at*;clear Sy oo qI ig WH;have Tv:=aa (show sZ W4 p h Bh (Bh+1) o from⟨HH.o.below xu.o.base,hs.below xu.o.base,BH.cell 0,BO.cell 0⟩);have zD:o<4294967296:=by
       have h1:=HM.ap5 HO.o;have h2:=f.marks;have h3:=f.room;have h4:=f.hi;omega
      have hN:=zS f o (HM.aps hh HO.o);gi_wp2_with fail
      refine wpIn_rangeFunc_ownH (F:=Fence.wide) rfl (by omega) (gf:=192) (lb:=#[.pointer (some ⟨Bh,0,none⟩),.pointer (some ⟨Bh+1,0,none⟩)]) rfl trivial (enters_of Tryz.func192 (by kernel_rfl) rfl)
       (rJ Tv.o f hh zD HO.o 5 (fun A B=>qT w.heap.size Bh (Bh+1) A B) (qT.need HH.o hs)) (fun a b=>qT.trans a b) (fun W l o o' h1 h2 h3 _=>qT.book W l o o' (by omega) (by omega) (by omega) h2 h3) (Below.refl _ _) (fun _=>rfl)
       (fun pre W=>∃ vm vd,E6 w (mB+1) mB (mB+1+1) (.pointer (some ⟨p.g,0,none⟩)) vm vd (nS h.ao_ l i pre) W/\(vm.ownBlock≠some (Bh+1)/\vd.ownBlock≠some bI)/\eW W bI 3 #[.int .i64 i]/\gC w.heap.size ds W/\eW W Bh 23 #[.pointer (some ⟨p.g,0,none⟩)]/\eW W (Bh+1) 54 #[.int .u32 (o:Nat)])
       (fun c pre W=>False)
       (fun pre A B row ⟨vm,vd,h1,h2,h3,h4,h5,h6⟩ hg hr=>⟨vm,vd,h1.apw (by omega) (by omega) hg hr,h2,ir h3 hg hr,h4.apw (fun D hD=>by have:=Oq D hD;omega) hg hr,ir h5 hg hr,ir h6 hg hr⟩)
       (fun c pre A B row h _ _=>h.elim)
       ⟨_,_,xu.o,⟨hmo,hvb⟩,yM.o,HM4.o,BH,BO⟩
       (fun x a' W=>a'={ tmps:=#[.pointer (some ⟨p.g,0,none⟩),.slice A k c,undef,undef,.pointer none,.int .i64 0,.pointer (some ⟨mB+1+1,0,none⟩),undef,u8,.pointer (some ⟨bI,0,none⟩),undef,.int .u32 (h.ao_ o x:Nat),.pointer (some ⟨p.g,0,none⟩),.slice A k c,.bool true,.bool false,.pointer (some ⟨p.g,0,none⟩),.map (some mB),.agg #[.pointer (some ⟨p.g,0,none⟩),.slice none 0 0,.map (some mB),.slice none 0 0],.pointer (some ⟨mB+1,0,none⟩),.slice A k c,.int .i64 (k:Int),.int .i64 (k:Int),.bool false,u24,u25,u26,u27,u28,u29,.int .i64 (i:Int),.pointer (some ⟨mB+1,0,none⟩),.pointer (some ⟨mB+1,0,none⟩),.pointer (some ⟨mB+1,1,none⟩),.slice (some ad) l.length cm,.int .i64 (l.length:Int),.bool true,u37,u38,.pointer (some ⟨p.g,0,none⟩),.pointer (some ⟨mB+1,0,none⟩),.pointer (some ⟨mB+1,0,none⟩),.pointer (some ⟨mB+1,1,none⟩),.slice (some ad) l.length cm,.int .i64 (i:Int),.pointer (some (ad.add i)),.int .u32 (o:Int),.func (.func 192) #[] #[.pointer (some ⟨Bh,0,none⟩),.pointer (some ⟨Bh+1,0,none⟩)],.int .i64 ((x:Int)-1),.int .u32 (h.ao_ o x:Nat),undef,undef,undef,undef,undef,undef,undef,undef,undef,undef,undef,u61,u62,u63,u64,u65,u66,u67,undef,undef,undef,undef,undef,undef,undef],defers:=[] })
       (fun x a' _ X Y row hs hg hr=>hs)
       ?assign ?body ?done (fun D c pre W _ _ h=>h.elim)
      case assign=>
       rintro lp pre x W K hI hK;rw[show OA h o x=#[.int .i64 ((x:Int)-1),.int .u32 (h.ao_ o x:Nat)] from rfl];have HK:=aa hK;have Wz:=aa hI;clear hK hI;generalize h.ao_ o x=v at*;gi_wp2_with fail;exact HK.o _ _ ((KeepsOthers.refl _).from _) ⟨rfl,rfl,rfl,ah _,fun _ _=>rfl,rfl,rfl,fun _ _ b=>b⟩ Wz.o rfl
      case body=>
       rintro lp pre x a' W hl ⟨r,hr⟩ ⟨vm,vd,S,h2,h3,h4,h5,h6⟩ rfl Gl;have amq:(l.getD i default).deep<=i+1:=by
        have:=HDP.o;rw[ae,af tz.o];exact this _ (aw _)
       have yj:=MZ h.ao_ l i pre;have aj2:=MX h.ao_ l i pre;have akc:=yj.length_le;have hkp:=aa (JC h.ao_ i (fun x hx=>oZ (HI.o x hx)) pre);have Uq:=zP h.ao_ l i pre x;rw[Vh.o]at Uq;have wD:=aa Uq;clear Uq;have hgd:=Rk yj tz.o;have Yd:=HM.apL f o x;generalize h.ao_ o x=v at*;generalize nS h.ao_ l i pre=l1 at*;have hil:i<l1.length:=(by have:=tz.o;omega);obtain⟨Ad1,cd1,rfl,acG⟩:=fF S.graph.deep;obtain⟨TK,u1,rfl,_,hx1,Jj⟩:=acG.at_ (k:=i) (by omega);rw[MO (by simp[ol];omega),Eu (by omega),hgd]at hx1;injection hx1 with hx1;subst hx1;have k0:W.cell? ⟨bI,0,none⟩=some (.int .i64 (i:Int)):=h3.cell 0;have k1:W.cell? ⟨mB+1+1,0,none⟩=some (.pointer (some ⟨mB+1,0,none⟩)):=S.box.cell 0;have k2:W.cell? ⟨mB+1,3,none⟩=some (.slice (some TK) l1.length cd1):=S.graph.box.cell 3;generalize (l.getD i default).deep=dp at*;replace k0:=cell_regrown k0;replace k1:=cell_regrown k1;replace k2:=cell_regrown k2;replace Jj:=cell_regrown Jj;have lM:=aa S;have HV:=aa (And.intro h2 (And.intro h3 (And.intro h4 (And.intro h5 h6))));clear S h2 h3 h4 h5 h6 acG yj hgd tH Up;gi_wp2_with fail;refine wpIn_region_below_tail 10 (by kernel_rfl) (by kernel_rfl) (by kernel_rfl) (by rintro⟨a,w,hh⟩;exact hh) ?_;simp only[bq,bE,br,bF];repeat (quiet_step (fail))
       refine wpQuiet_nil ?_;intro wq VV;obtain⟨⟨dq1,ac5⟩,hw''⟩:=VV;subst hw'';have qU:=below_regrown W dq1 ac5;have U6:=aa qU;have mf:=aa (lM.o.below qU);have Io:=aa (And.intro HV.o.1 (And.intro (HV.o.2.1.below qU HV.o.2.1.lt) (And.intro (HV.o.2.2.1.below qU) (And.intro (HV.o.2.2.2.1.below qU HV.o.2.2.2.1.lt) (HV.o.2.2.2.2.below qU HV.o.2.2.2.2.lt)))));have hsq:=qU.size;have X2:Bh+1<W.heap.size:=HV.o.2.2.2.2.lt;have hlh:Bh<W.heap.size:=(by omega);have VT:w.heap.size<=W.heap.size:=lM.o.base.size;clear k0 k1 k2 Jj qU lM HV;generalize grow (redrawn W dq1) ac5=W7 at*;have HMT:=aa (vF mf.o.graph hkp.o v Yd (dp+1) (by omega) (by omega) (i:Int) ((x:Int)-1));rw[<-wD.o,show (((dp+1:Nat)):Int)=(dp:Int)+1 by omega]at HMT;go_wp2_with fail;refine HMT.o.mono ?_;rintro e W8 ⟨rfl,tx,tv,G',s'⟩
       have gN:=aa (show KeepsFrom W4.heap.size W W8/\qT w.heap.size Bh (Bh+1) W W8/\∃ vm vd,E6 w (mB+1) mB (mB+1+1) (.pointer (some ⟨p.g,0,none⟩)) vm vd (nS h.ao_ l i (pre++[x])) W8/\(vm.ownBlock≠some (Bh+1)/\vd.ownBlock≠some bI)/\eW W8 bI 3 #[.int .i64 i]/\gC w.heap.size ds W8/\eW W8 Bh 23 #[.pointer (some ⟨p.g,0,none⟩)]/\eW W8 (Bh+1) 54 #[.int .u32 (o:Nat)] from
        ⟨(KeepsFrom.apa U6.o).trans (s'.keeps mf.o.graph (by omega)),
          (qT.apa U6.o VT hlh X2).trans (s'.kpG mf.o.graph Io.o.2.2.2.1 Io.o.2.2.2.2 Io.o.1.1),
          tx,tv,mf.o.step G' s',⟨fun e=>by
           rcases s'.rm _ e with e'|e'
           .exact Io.o.1.1 e'
           .omega,fun e=>by
           rcases s'.rd _ e with e'|e'
           .exact Io.o.1.2 e'
           .have:=Io.o.2.1.lt;omega⟩,
          Io.o.2.1.same (s'.aqK mf.o.graph Io.o.2.1 (by decide) (by decide) Io.o.1.2),Io.o.2.2.1.gstep mf.o.graph s',
          Io.o.2.2.2.1.same (s'.blk mf.o.graph Io.o.2.2.2.1 (by decide) (by decide) (by decide)),
          Io.o.2.2.2.2.same (s'.kpG mf.o.graph Io.o.2.2.2.1 Io.o.2.2.2.2 Io.o.1.1).bo⟩)
       clear G' s';go_wp2_with fail;gi_wp2_with fail;exact gN.o
      case done=>
       rintro D xs W hD rfl ⟨vm,vd,S,h2,h3,h4,h5,h6⟩ hK;rw[rG]at S;obtain⟨Am1,cm1,rfl,ahz⟩:=fF S.graph.met;have k0:W.cell? ⟨bI,0,none⟩=some (.int .i64 (i:Int)):=h3.cell 0;have k1:W.cell? ⟨mB+1+1,0,none⟩=some (.pointer (some ⟨mB+1,0,none⟩)):=S.box.cell 0;have k2:W.cell? ⟨mB+1,1,none⟩=some (.slice Am1 (j5 h.ao_ l i (h.nmN o)).length cm1):=S.graph.box.cell 1;have yy:=aa (h4.cons (by omega) hK (fun D' KP=>by have:=Oq D' KP;omega));have acK:j5 h.ao_ l i (h.nmN o)=h_ h.nmN h.ao_ l i:=(by unfold h_;rw[Vh.o]);rw[acK]at S k2;have lM:=aa S;clear S h2 h3 h4 h5 h6 ahz tH Up acK hK;by_cases CT:65536<(h_ h.nmN h.ao_ l i).length
       .have hd:decide ((65536:Int)<((h_ h.nmN h.ao_ l i).length:Int))=true:=(by simp;omega);have HF:=aa (HG.o.long tz.o CT);clear CT;generalize h_ h.nmN h.ao_ l i=l2 at*;gi_wp2_with fail;refine jI (B:=w.heap.size) _ _ yy.o (fun w' e1 e2 e3 e4 e5=>?_);refine⟨.tuple #[.pointer none,.int .i64 2],by simp[results,Tryz.results132,go_sem],?_⟩;exact⟨pV lM.o.base yy.o e1 e2 e3 e4 e5,.inr (.inl ⟨kJ,HF.o,rfl⟩)⟩
       .have hd:decide ((65536:Int)<((h_ h.nmN h.ao_ l i).length:Int))=false:=(by simp;omega);have mn:=aa (HG.o.next tz.o CT);have Oa:=aa (show ∀ nd∈h_ h.nmN h.ao_ l i,nd.deep<=i+1+1 by
         unfold h_;rw[<-rG];exact JB _ HDP.o tz.o _)
        have YB:=aa (show ∀ x∈eL (h_ h.nmN h.ao_ l i),h.isB x=true by
         unfold h_;refine pw h.ao_ HI.o _ (fun k hk h2=>?_) _ (ah _);rw[Vh.o]at hk h2 ⊢;exact pX G HO.o hk h2)
        clear CT;generalize h_ h.nmN h.ao_ l i=l2 at*;gi_wp2_with fail;refine⟨65538-(i+1),by have:=HJ.o;omega,i+1,W.heap.size,{ target:=.collected D,args:=#[] } :: ds,.slice Am1 l2.length cm1,vd,l2,_,_,_,_,_,_,_,_,_,_,_,_,_,_,_,_,_,_,_,_,_,_,_,_,_,rfl,rfl,mn.o,YB.o,Oa.o,?_,?_,?_,?_⟩
        .exact lM.o.below ((Below.refl _ _).alloc (ah _) _)
        .exact eW.new W 3 #[.int .i64 ((i:Int)+1)]
        .exact yy.o.below ((Below.refl _ _).alloc (ah _) _)
        .exact fun e=>by have:=(lM.o.graph.deep.lt _ e).2;omega
     .have hd:decide ((i:Int)<(l.length:Int))=false:=(by simp;omega);have Oa:=aa (HG.o.done hlt);have qY:decide ((65536:Int)<(l.length:Int))=false:=(by have:=Oa.o.2;simp;omega);gi_wp2_with fail
      gi_region
      gi_wp2_with fail;have jv:Below W.heap.size W W.drew:=⟨rfl,rfl,rfl,ah _,fun _ _=>rfl⟩;replace HS:=aa (HS.o.below jv);replace HM:=aa (HM.o.below jv);replace k1:W.drew.cell? ⟨mB+1+1,0,none⟩=some (.pointer (some ⟨mB+1,0,none⟩)):=k1;replace k2:W.drew.cell? ⟨mB+1,1,none⟩=some (.slice Am l.length cm):=k2;clear jv k0;generalize W.drew=W at*;gi_wp2_with fail;refine jI (B:=w.heap.size) _ _ HM.o (fun w' e1 e2 e3 e4 e5=>?_);refine⟨.tuple #[.pointer (some ⟨mB+1,0,none⟩),.int .i64 0],by simp[results,Tryz.results132,go_sem],?_⟩;exact⟨pV HS.o.base HM.o e1 e2 e3 e4 e5,.inr (.inr ⟨kJ,l,mB+1,mB,_,_,Oa.o.1,⟨Oa.o.2,HG.o.nodup,HI.o,fun nd uG=>by have h1:=HDP.o nd uG;have h2:=HG.o.le;have h3:=Oa.o.2;omega⟩,rfl,HS.o.graph.left HM.o e4 e5⟩)⟩
end
section
open Go.RowKit Go.Maps
attribute [local go_sem] au
def iK (l:List Nd)(f:Nat->Nat)(xs:List Nat):List Nat:=xs.flatMap fun k=>fq (ja l (f k))
def HM.cwB (h:HM)(o n:Nat):List Nat:=(aR n).flatMap fun i=>fq (fw h o i)
def HM.apO (h:HM)(o:Nat):List Nat:=(fg (h.fields o)).take (h.hd (o/2)).len
def HM.apz (h:HM)(o:Nat):List Nat:=
 if (h.hd (o/2)).fmt=3 then h.cwB o (h.hd (o/2)).size else if (h.hd (o/2)).fmt=2 then h.apO o else []
def HM.ap0 (h:HM)(ser:Bool)(o:Nat):List Nat:=if ser then fq (h.hd (o/2)).ser else []
def HM.apA (h:HM)(ser:Bool)(o:Nat):List Nat:=[(h.hd (o/2)).fmt,(h.hd (o/2)).spare]++fq (h.hd (o/2)).size++h.ap0 ser o
def HM.apM (h:HM)(ser:Bool)(l:List Nd)(o:Nat):List Nat:=
 h.apA ser o++iK l (h.ao_ o) (aR (h.nmN o))++h.apz o
def kF (h:HM)(ser:Bool)(fr:List Nat)(l:List Nd):List Nat:=iK l id fr++(eL l).flatMap (h.apM ser l)
theorem pY {f:Nat->List Nat}{c:Nat}:∀ {xs:List Nat},(∀ x∈xs,(f x).length<=c)->(xs.flatMap f).length<=c*xs.length
 | [],_=>by simp
 | x :: xs,h=>by
   have h1:=h x (aI ..);have h2:=pY (fun y hy=>h y (aK _ hy));rw[List.flatMap_cons,ax,aF,Nat.mul_succ];omega
theorem oH (f:Nat->List Nat)(xs:List Nat)(x:Nat):(xs++[x]).flatMap f=xs.flatMap f++f x:=by simp
theorem si {x:Nat}(h:x<34359738368):(fq x).length<=5:=ze 4 x (by rw[show (128:Nat) ^ (4+1)=34359738368 by decide];exact h)
theorem pG {l:List Nd}(hl:l.length<=4000000){f:Nat->Nat}{xs:List Nat}(h:∀ x∈xs,f x<4294967296):(iK l f xs).length<=5*xs.length:=
 pY fun x hx=>si (by have:=EU l (f x) (h x hx) hl;omega)
theorem J4 (l:List Nd)(f:Nat->Nat)(xs:List Nat)(x:Nat):iK l f (xs++[x])=iK l f xs++fq (ja l (f x)):=oH _ _ _
theorem PO (h:HM)(o n:Nat):h.cwB o (n+1)=h.cwB o n++fq (fw h o n):=by unfold HM.cwB;rw[bD,oH]
theorem KH {h:HM}(f:h.Fit)(o n:Nat):(h.cwB o n).length<=5*n:=by
 have:=pY (f:=fun i=>fq (fw h o i)) (c:=5) (xs:=aR n) (fun x _=>si (by have:=HM.aqG f o x;omega));rw[bw]at this;exact this
theorem nJ {h:HM}(f:h.Fit){o:Nat}(hi:h.apS (o/2)):(h.hd (o/2)).size<=1048576:=by
 have h1:=hi.1;have h3:=f.room;have h4:=f.hi;omega
theorem RI {h:HM}(f:h.Fit)(ser:Bool)(o:Nat):(h.ap0 ser o).length<=5:=by
 unfold HM.ap0;split
 .exact si (by have:=(HM.apR f (o/2)).ser;omega)
 .simp
theorem CP {h:HM}(f:h.Fit)(ser:Bool)(o:Nat):(h.apA ser o).length<=12:=by
 unfold HM.apA;have h1:=RI f ser o;have h2:=si (x:=(h.hd (o/2)).size) (by have:=(HM.apR f (o/2)).size;omega);simp only[ax,aF,aL];omega
theorem zb {h:HM}(f:h.Fit){o:Nat}(hi:h.apS (o/2)):(h.apO o).length<=4*1048576:=by
 unfold HM.apO;have h1:=nJ f hi;have:(h.hd (o/2)).len<=4*1048576:=by unfold Hd.len;split <;> omega
 rw[aG];omega
theorem Me {h:HM}(f:h.Fit){o:Nat}(hi:h.apS (o/2)):(h.apz o).length<=5*1048576:=by
 unfold HM.apz;have h1:=nJ f hi;split
 .have:=KH f o (h.hd (o/2)).size;omega
 .split
  .have:=zb f hi;omega
  .simp
theorem Q4 {h:HM}(f:h.Fit){o:Nat}(hi:h.apS (o/2))(ser:Bool){l:List Nd}(hl:l.length<=4000000):(h.apM ser l o).length<=11000000:=by
 unfold HM.apM;have h1:=CP f ser o;have h2:=pG hl (f:=h.ao_ o) (xs:=aR (h.nmN o)) (fun x _=>HM.apL f o x);have h3:=Me f hi;have h4:=zS f o hi;rw[bw]at h2;rw[ax,ax];omega
theorem Q5 {h:HM}(f:h.Fit)(hh:h.apu)(ser:Bool){l:List Nd}(hl:l.length<=65536)(hi:∀ x∈eL l,h.isB x=true)(i:Nat):(((eL l).take i).flatMap (h.apM ser l)).length<=720896000000:=by
 have h1:=pY (f:=h.apM ser l) (c:=11000000) (xs:=(eL l).take i) (fun x hx=>Q4 f (HM.aps hh (hi x (bn hx))) ser (by omega));have h2:((eL l).take i).length<=65536:=by rw[aG,fI];omega
 omega
theorem tB (f:Nat->List Nat){xs:List Nat}{i:Nat}(hi:i<xs.length):(xs.take (i+1)).flatMap f=(xs.take i).flatMap f++f (xs.getD i 0):=by
 rw[aQ,af hi,ae,af hi];exact oH f _ _
theorem He (l:List Nd)(f:Nat->Nat){xs:List Nat}{i:Nat}(hi:i<xs.length):iK l f (xs.take (i+1))=iK l f (xs.take i)++fq (ja l (f (xs.getD i 0))):=tB _ hi
section
variable {W0 w w':World}{gG mB bG bB n:Nat}{hv vm vd v v':Value}{l:List Nd}{bs:List Nat}
theorem E6.keep (S:E6 W0 gG mB bG hv vm vd l w)(h1:w'.os=w.os)(h2:w'.tape=w.tape)(h3:w'.output=w.output)(h4:w.heap.size<=w'.heap.size)
 (hk:∀ k,k<w.heap.size->(k<W0.heap.size\/k=gG\/k=mB\/k=bG\/vm.ownBlock=some k\/vd.ownBlock=some k)->w'.heap[k]? = w.heap[k]?):E6 W0 gG mB bG hv vm vd l w':=
 ⟨⟨h1.trans S.base.os,h2.trans S.base.tape,h3.trans S.base.output,aj S.base.size h4,fun k h=>(hk k (ai h S.base.size) (.inl h)).trans (S.base.block k h)⟩,
   ⟨S.graph.box.same (hk _ S.graph.box.lt (.inr (.inl rfl))),fB S.graph.met (fun k h=>hk k (S.graph.met.lt k h).2 (.inr (.inr (.inr (.inr (.inl h)))))),
     fB S.graph.deep (fun k h=>hk k (S.graph.deep.lt k h).2 (.inr (.inr (.inr (.inr (.inr h)))))),S.graph.num.same (hk mB S.graph.num.lt (.inr (.inr (.inl rfl)))),S.graph.hg,S.graph.hm,aj S.graph.hB h4⟩,
   S.box.same (hk _ S.box.lt (.inr (.inr (.inr (.inl rfl)))))⟩
structure iP (W0:World) (gG mB bG bB:Nat) (hv vm vd:Value) (l:List Nd) (bs:List Nat) (v:Value) (w:World):Prop where
 gst:E6 W0 gG mB bG hv vm vd l w
 bb:eW w bB 22 #[v]
 own:w.ownsRow W0.heap.size 5 1 v bs.length (fP bs)
 hb:W0.heap.size<=bB
theorem iP.below (C:iP W0 gG mB bG bB hv vm vd l bs v w)(hb:Below w.heap.size w w'):iP W0 gG mB bG bB hv vm vd l bs v w':=
 ⟨C.gst.below hb,C.bb.below hb C.bb.lt,fB C.own (fun k hk=>hb.block k (C.own.lt k hk).2),C.hb⟩
theorem iP.other (C:iP W0 gG mB bG bB hv vm vd l bs v w)(hg:fG w w' v v'){k:Nat}(hk:k<w.heap.size)(h1:v.ownBlock≠some k)(h2:k≠bB)(u:Value):
 (w'.setCell ⟨bB,0,none⟩ u).heap[k]? = w.heap[k]? :=
 (Below.heap_setCell w' ⟨bB,0,none⟩ u k h2).trans (hg.g.block k hk (fun e=>h1 e.symm))
theorem iP.blk (C:iP W0 gG mB bG bB hv vm vd l bs v w)(hg:fG w w' v v')(u:Value){g:Nat}{t:TypeId}{cs:Array Value}(b:eW w g t cs)(h1:5≠t)(h2:t≠22):
 (w'.setCell ⟨bB,0,none⟩ u).heap[g]? = w.heap[g]? :=
 C.other hg b.lt (eU C.own b h1) (b.ne_ C.bb h2) u
theorem iP.obj (C:iP W0 gG mB bG bB hv vm vd l bs v w)(hg:fG w w' v v')(u:Value){k:Nat}{o:Obj}(ho:w.heap[k]? = some o)(hc:o.isCells=false):(w'.setCell ⟨bB,0,none⟩ u).heap[k]? = some o:=
 (C.other hg (fA ho) (fun e=>by
   obtain⟨o',l_,hc'⟩:=iM C.own e;rw[ho]at l_;injection l_ with l_;subst l_;rw[hc]at hc';cases hc') (fun e=>by
   subst e;have:=C.bb;unfold eW at this;rw[this]at ho;injection ho with ho;subst ho;cases hc) u).trans ho
theorem iP.grow (C:iP W0 gG mB bG bB hv vm vd l bs v w){cs:List Nat}(hown:w'.ownsRow W0.heap.size 5 1 v' cs.length (fP cs))(hg:fG w w' v v'):
 iP W0 gG mB bG bB hv vm vd l cs v' (w'.setCell ⟨bB,0,none⟩ v'):=by
 have hsz:(w'.setCell ⟨bB,0,none⟩ v').heap.size=w'.heap.size:=by simp[az]
 have hne:v.ownBlock≠some bB:=eU C.own C.bb (by decide);have Um:v'.ownBlock≠some bB:=fun e=>by
  rcases hg.at_ _ e with e'|e'
  .exact hne e'
  .have:=C.bb.lt;omega
 refine⟨C.gst.keep hg.g.os hg.g.tape hg.g.output (by rw[hsz];exact hg.size) ?_,(C.bb.same (hg.g.block bB C.bb.lt (fun e=>hne e.symm))).apg 0 _,fB hown (fun k hk=>Below.heap_setCell w' ⟨bB,0,none⟩ _ k (fun e=>by subst e;exact Um hk)),C.hb⟩;intro k hk hc;refine C.other hg hk ?_ ?_ _
 .rcases hc with h|rfl|rfl|rfl|h|h
  .exact fun e=>by have:=(C.own.lt k e).1;omega
  .exact eU C.own C.gst.graph.box (by decide)
  .exact fJ C.own C.gst.graph.num
  .exact eU C.own C.gst.box (by decide)
  .exact jh C.gst.graph.met C.own (by decide) k h
  .exact jh C.gst.graph.deep C.own (by decide) k h
 .rcases hc with h|rfl|rfl|rfl|h|h
  .have:=C.hb;omega
  .exact C.gst.graph.box.ne_ C.bb (by decide)
  .rintro rfl;obtain⟨D,_,⟨es,clock,hb,r⟩,_⟩:=C.gst.graph.num;have:=C.bb;unfold eW at this;rw[this]at hb;injection hb with hb;cases hb
  .exact C.gst.box.ne_ C.bb (by decide)
  .rintro rfl;exact eU C.gst.graph.met C.bb (by decide) h
  .rintro rfl;exact eU C.gst.graph.deep C.bb (by decide) h
theorem iP.bb' (C:iP W0 gG mB bG bB hv vm vd l bs v w)(hg:fG w w' v v'):eW w' bB 22 #[v]:=
 C.bb.same (hg.g.block bB C.bb.lt (fun e=>eU C.own C.bb (by decide) e.symm))
theorem fG.ap9 (w:World)(v:Value)(o:Obj)(h:fG (w.alloc o) w' v v'):fG w w' v v':=((fG.refl w v).below ((Below.refl _ _).alloc (ah _) o)).trans h
theorem fG.far (hg:fG w w' v v'){k:Nat}(hk:k<w.heap.size)(hn:v.ownBlock≠some k):w'.heap[k]? = w.heap[k]? :=hg.g.block k hk (fun e=>hn e.symm)
theorem fG.alloc (h:fG w w' v v')(o:Obj):fG w (w'.alloc o) v v':=h.below ((Below.refl _ _).alloc (ah _) o)
theorem fG.append (h:fG w w' v v'){w2:World}{v2:Value}(hg:w'.grownBy w2 v'.ownBlock)(ha:v2.ownBlock=v'.ownBlock\/v2.ownBlock=some w'.heap.size):fG w w2 v v2:=h.trans (.of hg ha)
theorem iP.marks (C:iP W0 gG mB bG bB hv vm vd l bs v w)(hg:fG w w' v v')(u:Value){B:Nat}{ds:List Deferred}(M:gC B ds w):gC B ds (w'.setCell ⟨bB,0,none⟩ u):=
 M.same fun D _ h=>C.obj hg u h rfl
theorem iP.kpG (C:iP W0 gG mB bG bB hv vm vd l bs v w)(hg:fG w w' v v')(u:Value){Bh Bo:Nat}{ch co:Array Value}(bh:eW w Bh 23 ch)(bo:eW w Bo 54 co):
 qT W0.heap.size Bh Bo w (w'.setCell ⟨bB,0,none⟩ u):=
 ⟨hg.g.os,hg.g.tape,hg.g.output,by simp[az];exact hg.size,fun k hk=>C.other hg (ai hk C.gst.base.size) (fun e=>by have:=(C.own.lt k e).1;omega) (by have:=C.hb;omega) u,
   C.blk hg u bh (by decide) (by decide),C.blk hg u bo (by decide) (by decide),fun g cs b=>b.same (C.blk hg u b (by decide) (by decide))⟩
theorem iP.keeps (C:iP W0 gG mB bG bB hv vm vd l bs v w)(hg:fG w w' v v')(u:Value)(B:Nat):KeepsFrom B w (w'.setCell ⟨bB,0,none⟩ u):=
 ⟨by simp[az];exact hg.size,fun k o _ ho hc=>C.obj hg u ho hc⟩
theorem iP.apw {B:Nat}{row:Option Nat}(C:iP W0 gG mB bG bB hv vm vd l bs v w)(hm:mB<B)(hB:W0.heap.size<=B)(hg:w.grownBy w' row)(hr:∀ r,row=some r->B<=r/\∃ o:Obj,w.heap[r]? = some o/\o.isCells=false):iP W0 gG mB bG bB hv vm vd l bs v w':=
 ⟨C.gst.apw hm hB hg hr,ir C.bb hg hr,fB C.own (fun k hk=>hg.block k (C.own.lt k hk).2 (fun e=>by
   obtain⟨_,o,ho,hc⟩:=hr k e.symm;obtain⟨o',l_,hc'⟩:=iM C.own hk;rw[l_]at ho;injection ho with ho;subst ho;rw[hc']at hc;cases hc)),C.hb⟩
end
theorem JR {w:World}{base:Nat}{e:TypeId}{A:Option Addr}{n c:Nat}{xs:List Value}(h:w.ownsRow base e 1 (.slice A n c) n xs):eQ w w.heap.size 1 A n xs:=by
 obtain⟨A',c',e,hr⟩:=fF h;injection e with e1;subst e1;exact hr
theorem D7 (z:Int):IntKind.u8.wrap z=z%256:=by
 unfold IntKind.wrap;simp[IntKind.signed,show IntKind.u8.bits=8 from rfl]
theorem vW {cur:World}{B a:Nat}{t:TypeId}{x y:Value}(h:cur.heap[a]? = some (.cells #[x,y] t (0,0)))(hB:a<B):eQ cur B 1 (some ⟨a,0,none⟩) 2 [x,y]:=by
 refine⟨rfl,fun _=>⟨_,rfl,hB,fun j u hu=>?_⟩⟩;rw[aN,aV,cell_of_row cur a j #[x,y] t (0,0) h];simpa using hu
theorem mR {cur:World}{B a:Nat}{t:TypeId}{x:Value}(h:cur.heap[a]? = some (.cells #[x] t (0,0)))(hB:a<B):eQ cur B 1 (some ⟨a,0,none⟩) 1 [x]:=by
 refine⟨rfl,fun _=>⟨_,rfl,hB,fun j u hu=>?_⟩⟩;rw[aN,aV,cell_of_row cur a j #[x] t (0,0) h];simpa using hu
theorem uW {w:World}{g c len:Nat}{xs:List Nat}(hr:Row w g 5 c (fP xs))(hl:len<=xs.length):eQ w w.heap.size 1 (some ⟨g,0,none⟩) len (fP (xs.take len)):=by
 refine⟨by simp[fP];omega,fun _=>⟨_,rfl,hr.lt,fun j u hu=>?_⟩⟩;rw[aN,aV];refine hr.cell ?_;unfold fP at hu ⊢;rw[aB]at hu ⊢;rw[List.getElem?_take]at hu;split at hu
 .exact hu
 .cases hu
theorem xF {h:HM}{ls:List Ob}(G:h.Good ls){o:Nat}(hi:h.isB o=true)(h2:(h.hd (o/2)).fmt=2):h.apK o=0:=by
 obtain⟨a,b,c,rfl,rfl⟩:=(G.laid.apr o).1 hi;have L:=G.laid;unfold HM.apK;rw[fT,L.apF]at*;rw[if_neg (by simp[hi]),if_pos h2,L.apE];exact G.sound.spare b (by simp) h2
theorem nI {h:HM}{ls:List Ob}(G:h.Good ls){o:Nat}(hi:h.isB o=true)(h2:(h.hd (o/2)).fmt=2):(h.hd (o/2)).len<=(fg (h.fields o)).length:=by
 rw[gK,HM.fields_len (HM.aps G.laid.heads hi)];unfold Hd.len;rw[if_pos h2];omega
theorem DY {w:World}{p:HP}{h:HM}(H:fO w p h)(f:h.Fit)(hh:h.apu)(hs:eX w){o:Nat}(ho:o<4294967296)(hi:h.isB o=true)(h3:(h.hd (o/2)).fmt=3){k:Nat}(hk:k<(h.hd (o/2)).size):
 Calls Tryz.prog 136 #[ptr p.g,.int .u32 o,.int .i64 k] w (Told (.tuple #[.int .u32 (fw h o k:Nat),.int .i64 0]) w):=by
 have hG:=Ia H f hh hs o ho (k:Int);have SB:(h.hd (o/2)).len=(h.hd (o/2)).size:=by unfold Hd.len;rw[if_neg (by omega)]
 have he:h.ape o (k:Int) [3]=0:=by
  unfold HM.ape;rw[hi,if_neg (by decide),if_neg (by rw[h3];decide),if_neg (by omega)]
 unfold HM.ap2 at hG;rw[he]at hG;exact hG
end
section
open Go.RowKit
def HM.odM (g h:HM)(ser:Bool)(o q:Nat):Option (Nat × Nat):=
 if (g.hd (o/2)).fmt≠(h.hd (q/2)).fmt\/(g.hd (o/2)).size≠(h.hd (q/2)).size\/(g.hd (o/2)).spare≠(h.hd (q/2)).spare then some (3,0)
 else if ser=true/\(g.hd (o/2)).ser≠(h.hd (q/2)).ser then some (4,0)
 else if (g.hd (o/2)).apb=true then none
 else (tV (g.hd (o/2)).size (fw g o) (fw h q)).map fun k=>(5,k)
theorem vN {g h:HM}{ser:Bool}{o q:Nat}:g.odM h ser o q=none↔
 (g.hd (o/2)).fmt=(h.hd (q/2)).fmt/\(g.hd (o/2)).size=(h.hd (q/2)).size/\(g.hd (o/2)).spare=(h.hd (q/2)).spare/\(ser=true->(g.hd (o/2)).ser=(h.hd (q/2)).ser)/\
  ((g.hd (o/2)).apb=false->∀ k,k<(g.hd (o/2)).size->fw g o k=fw h q k):=by
 unfold HM.odM;split
 .rename_i hc;simp only[reduceCtorEq,false_iff];rintro⟨h1,h2,h3,_⟩;rcases hc with h|h|h <;> contradiction
 .rename_i hc;have h1:(g.hd (o/2)).fmt=(h.hd (q/2)).fmt:=ay fun e=>hc (.inl e);have h2:(g.hd (o/2)).size=(h.hd (q/2)).size:=ay fun e=>hc (.inr (.inl e));have h3:(g.hd (o/2)).spare=(h.hd (q/2)).spare:=ay fun e=>hc (.inr (.inr e));split
  .rename_i hs;simp only[reduceCtorEq,false_iff];rintro⟨_,_,_,h4,_⟩;exact hs.2 (h4 hs.1)
  .rename_i hs;have h4:ser=true->(g.hd (o/2)).ser=(h.hd (q/2)).ser:=fun e=>ay fun e2=>hs ⟨e,e2⟩;split
   .rename_i hp;simp only[true_iff];exact⟨h1,h2,h3,h4,fun e=>by rw[hp]at e;cases e⟩
   .rename_i hp;rw[Option.map_eq_none_iff,xE];constructor
    .intro hf;exact⟨h1,h2,h3,h4,fun _=>hf⟩
    .rintro⟨_,_,_,_,hf⟩;exact hf (by simpa using hp)
theorem Q6 (g:HM)(ser:Bool)(o:Nat):g.odM g ser o o=none:=vN.2 ⟨rfl,rfl,rfl,fun _=>rfl,fun _ _ _=>rfl⟩
theorem GW {g h:HM}{ser:Bool}(o q k x:Nat)(e:g.odM h ser o q=some (k,x)):k≠0:=by
 unfold HM.odM at e;split at e
 .injection e with e;injection e with e1;omega
 .split at e
  .injection e with e;injection e with e1;omega
  .split at e
   .cases e
   .cases hf:tV (g.hd (o/2)).size (fw g o) (fw h q) with
    | none=>rw[hf]at e;cases e
    | some j=>rw[hf]at e;injection e with e;injection e with e1;omega
theorem EJ {g h:HM}{ser:Bool}(o q:Nat)(e:g.odM h ser o q=none):h.nmN q=g.nmN o:=by
 obtain⟨a1,a2,_⟩:=vN.1 e;unfold HM.nmN Hd.apb;rw[a1,a2]
theorem jx (l:List Nd)(k:Nat):(eL l).getD k 0=iw l k:=by
 unfold eL iw;simp only[ae,aB];cases l[k]? <;> rfl
theorem Ka {v u:Nat}(hv:v<4294967296)(hu:u<4294967296)(h1:eR v=1)(h2:eR u=1)(h:gF v=gF u):v=u:=by
 have a1:v%2=1:=by unfold eR at h1;split at h1 <;> (try split at h1) <;> omega
 have a2:u%2=1:=by unfold eR at h2;split at h2 <;> (try split at h2) <;> omega
 unfold gF at h;split at h <;> split at h <;> omega
theorem U2 {m n:Int}(h:SJ m=SJ n):m=n:=by
 by_cases hm:0<=m
 .have a:=sV hm;by_cases hn:0<=n
  .have b:=sV hn;omega
  .have b:=sU hn;omega
 .have a:=sU hm;by_cases hn:0<=n
  .have b:=sV hn;omega
  .have b:=sU hn;omega
theorem Lx (m:Int):SJ m%2=1:=by
 by_cases hm:0<=m
 .have a:=sV hm;omega
 .have a:=sU hm;omega
theorem ot (v:Nat):eR v=0\/eR v=1\/eR v=2:=by unfold eR;split <;> (try split) <;> simp
theorem sH {l:List Nd}{v:Nat}(h:eR v=0):ja l v=0:=by unfold ja;rw[if_pos h]
theorem vV {l:List Nd}{v:Nat}(h:eR v=2):ja l v=2*iZ l v:=by unfold ja;rw[if_neg (by omega),if_pos h]
theorem qC {l:List Nd}{v:Nat}(h:eR v=1):ja l v=SJ (gF v):=by unfold ja;rw[if_neg (by omega),if_neg (by omega)]
theorem DI {l m:List Nd}{v u:Nat}(hv:v<4294967296)(hu:u<4294967296)(hl:eR v=2->v∈eL l)(hm:eR u=2->u∈eL m):ja l v=ja m u↔gj l m v u=0:=by
 rw[nV];have z1:=Lx (gF v);have z2:=Lx (gF u);rcases ot v with h0|h1|h2
 .rw[sH h0];rcases ot u with k0|k1|k2
  .rw[sH k0];simp[h0,k0]
  .rw[qC k1];constructor
   .intro e;omega
   .rintro⟨e,_⟩;omega
  .rw[vV k2];have:=mN.2 (hm k2);constructor
   .intro e;omega
   .rintro⟨e,_⟩;omega
 .rw[qC h1];rcases ot u with k0|k1|k2
  .rw[sH k0];constructor
   .intro e;omega
   .rintro⟨e,_⟩;omega
  .rw[qC k1];constructor
   .intro e;exact⟨by omega,fun _=>Ka hv hu h1 k1 (U2 e),fun e2=>by omega⟩
   .rintro⟨_,e,_⟩;rw[e h1]
  .rw[vV k2];constructor
   .intro e;omega
   .rintro⟨e,_⟩;omega
 .rw[vV h2];have p1:=mN.2 (hl h2);rcases ot u with k0|k1|k2
  .rw[sH k0];constructor
   .intro e;omega
   .rintro⟨e,_⟩;omega
  .rw[qC k1];constructor
   .intro e;omega
   .rintro⟨e,_⟩;omega
  .rw[vV k2];constructor
   .intro e;exact⟨by omega,fun e2=>by omega,fun _=>by omega⟩
   .rintro⟨_,_,e⟩;rw[e h2]
theorem nh {h:HM}{ls:List Ob}(G:h.Good ls){o:Nat}(hi:h.isB o=true):∃ b∈ls,h.hd (o/2)=b.x/\h.fields o=b.fs/\b.Ok/\∀ j,j<b.fs.length->fw h o j=b.fs.getD j 0:=by
 obtain⟨a,b,c,rfl,rfl⟩:=(G.laid.apr o).1 hi;have L:=G.laid;refine⟨b,by simp,?_,L.apE,L.apP,fun j hj=>L.aqp j hj⟩;rw[fT];exact L.apF
theorem FZ {h:HM}{ls:List Ob}(G:h.Good ls){o:Nat}(hi:h.isB o=true):(h.hd (o/2)).fmt=1\/(h.hd (o/2)).fmt=2\/(h.hd (o/2)).fmt=3\/(h.hd (o/2)).fmt=4:=by
 obtain⟨b,_,e,_,ok,_⟩:=nh G hi;have:=ok.may;rw[e];unfold Hd.may at this;simp at this;omega
theorem Mq {g h:HM}{ser:Bool}{o q:Nat}{s t:List Nat}(e:g.apA ser o++s=h.apA ser q++t):
 (g.hd (o/2)).fmt=(h.hd (q/2)).fmt/\(g.hd (o/2)).size=(h.hd (q/2)).size/\(g.hd (o/2)).spare=(h.hd (q/2)).spare/\(ser=true->(g.hd (o/2)).ser=(h.hd (q/2)).ser)/\s=t:=by
 unfold HM.apA HM.ap0 at e;simp only[aU,aM,aA,List.cons.injEq]at e;obtain⟨e1,e2,e3⟩:=e;obtain⟨e4,e5⟩:=zg _ _ _ _ e3;cases ser
 .exact⟨e1,e4,e2,(fun x=>by cases x),by simpa using e5⟩
 .rw[if_pos rfl,if_pos rfl]at e5;obtain⟨e6,e7⟩:=zg _ _ _ _ e5;exact⟨e1,e4,e2,fun _=>e6,e7⟩
theorem Mf {g h:HM}{lg lh:List Ob}(Gg:g.Good lg)(Gh:h.Good lh){o q:Nat}(ho:g.isB o=true)(hq:h.isB q=true)(hf:(g.hd (o/2)).fmt=(h.hd (q/2)).fmt)(hz:(g.hd (o/2)).size=(h.hd (q/2)).size)
 (hp:(g.hd (o/2)).spare=(h.hd (q/2)).spare){s t:List Nat}(e:g.apz o++s=h.apz q++t):((g.hd (o/2)).apb=false->∀ k,k<(g.hd (o/2)).size->fw g o k=fw h q k)/\s=t:=by
 have Qd:=FZ Gg ho;unfold HM.apz at e;rw[<-hf,<-hz]at e;by_cases h3:(g.hd (o/2)).fmt=3
 .rw[if_pos h3,if_pos h3]at e;unfold HM.cwB at e;obtain⟨h1,h2⟩:=u_ (f:=fw g o) (g:=fw h q) rfl e;refine⟨fun _ k hk=>?_,h2⟩;have:=h1 k (by simpa using hk);rw[ae,aH hk]at this;exact this
 .rw[if_neg h3,if_neg h3]at e;by_cases h2:(g.hd (o/2)).fmt=2
  .rw[if_pos h2,if_pos h2]at e;obtain⟨b,hb,e1,e2,k1,e3⟩:=nh Gg ho;obtain⟨c,hc,f1,f2,k2,f3⟩:=nh Gh hq;have r1:=nI Gg ho h2;have r2:=nI Gh hq (by omega);have hlen:(g.hd (o/2)).len=(h.hd (q/2)).len:=(by unfold Hd.len;rw[hf,hz,hp]);unfold HM.apO at e;obtain⟨h4,h5⟩:=List.append_inj e (by rw[aG,aG];omega);refine⟨fun _ k hk=>?_,h5⟩;have Y6:b.fs=c.fs:=by
    rw[e2,f2]at h4;have s1:=Gg.sound.spare b hb (by rw[<-e1];exact h2);have s2:=Gh.sound.spare c hc (by rw[<-f1];omega);have p1:=ow s1 (by have:=k1.fit.spare;omega) k1.f32;have p2:=ow s2 (by have:=k2.fit.spare;omega) k2.f32;have l1:(g.hd (o/2)).len=4*b.fs.length-b.x.spare:=(by unfold Hd.len;rw[if_pos h2,e1,k1.size]);have l2:(h.hd (q/2)).len=4*c.fs.length-c.x.spare:=(by unfold Hd.len;rw[if_pos (by omega),f1,k2.size]);rw[<-p1,<-p2,<-l1,<-l2,h4]
   have z1:=k1.size;rw[e1]at hk;rw[e3 k (by omega),f3 k (by rw[<-Y6];omega),Y6]
  .rw[if_neg h2,if_neg h2]at e;refine⟨fun Ox=>?_,by simpa using e⟩;unfold Hd.apb at Ox;simp at Ox;omega
theorem I7 {g h:HM}{lg lh:List Ob}(Gg:g.Good lg)(Gh:h.Good lh){o q:Nat}(ho:g.isB o=true)(hq:h.isB q=true)(hf:(g.hd (o/2)).fmt=(h.hd (q/2)).fmt)(hz:(g.hd (o/2)).size=(h.hd (q/2)).size)
 (hp:(g.hd (o/2)).spare=(h.hd (q/2)).spare)(hc:(g.hd (o/2)).apb=false->∀ k,k<(g.hd (o/2)).size->fw g o k=fw h q k):g.apz o=h.apz q:=by
 unfold HM.apz;rw[<-hf,<-hz];by_cases h3:(g.hd (o/2)).fmt=3
 .rw[if_pos h3,if_pos h3];unfold HM.cwB;refine sj (f:=fw g o) (g:=fw h q) rfl (fun k hk=>?_);have p_:k<(g.hd (o/2)).size:=by simpa using hk
  rw[ae,aH p_];exact hc (by unfold Hd.apb;simp[h3]) k p_
 .rw[if_neg h3,if_neg h3];by_cases h2:(g.hd (o/2)).fmt=2
  .rw[if_pos h2,if_pos h2];obtain⟨b,hb,e1,e2,k1,e3⟩:=nh Gg ho;obtain⟨c,hcm,f1,f2,k2,f3⟩:=nh Gh hq;have hlen:(g.hd (o/2)).len=(h.hd (q/2)).len:=(by unfold Hd.len;rw[hf,hz,hp]);have z1:=k1.size;have z2:=k2.size;rw[e1,f1]at hz;have Y6:b.fs=c.fs:=by
    apply List.ext_getElem?;intro k;rcases aT k b.fs.length with hk|hk
    .have:=hc (by unfold Hd.apb;simp[h2]) k (by rw[e1];omega);rw[e3 k hk,f3 k (by omega),ae,ae,af hk,af (by omega)]at this;rw[af hk,af (by omega)];simpa using this
    .rw[a_ hk,a_ (by omega)]
   unfold HM.apO;rw[hlen,e2,f2,Y6]
  .rw[if_neg h2,if_neg h2]
section
variable {g h:HM}{lg lh:List Ob}{ser:Bool}{a b:List Nat}{L M:List Nd}
theorem Dj {i:Nat}(W:xp g L)(hi:i<L.length):g.isB (iw L i)=true:=by
 refine W.2.2.1 _ ?_;rw[<-jx,ae,af (by rw[fI];exact hi)];exact aw _
theorem FJ (Gg:g.Good lg)(Gh:h.Good lh)(hL:f_ g.nmN g.ao_ a=some L)(hM:f_ h.nmN h.ao_ b=some M)(WL:xp g L)(WM:xp h M)(hab:b.length=a.length)
 (ha:∀ x∈a,x<4294967296)(hb:∀ x∈b,x<4294967296):kF g ser a L=kF h ser b M↔Alike g.nmN g.ao_ h.ao_ (g.odM h ser) L M a b:=by
 have abY:∀ k,k<a.length->a.getD k 0<4294967296:=fun k hk=>ha _ (by rw[ae,af hk];exact aw _);have abZ:∀ k,k<b.length->b.getD k 0<4294967296:=fun k hk=>hb _ (by rw[ae,af hk];exact aw _)
 have frP:∀ k,k<a.length->(ja L (a.getD k 0)=ja M (b.getD k 0)↔gj L M (a.getD k 0) (b.getD k 0)=0):=fun k hk=>
  DI (abY k hk) (abZ k (by omega)) (Ll hL hk) (Ll hM (by omega))
 have nmP:∀ i,i<L.length->i<M.length->∀ k,k<g.nmN (iw L i)->k<h.nmN (iw M i)->(ja L (g.ao_ (iw L i) k)=ja M (h.ao_ (iw M i) k)↔gj L M (g.ao_ (iw L i) k) (h.ao_ (iw M i) k)=0):=fun i hi Ir k hk hkM=>
  DI (HM.apL Gg.fit _ _) (HM.apL Gh.fit _ _) (Lm hL hi hk) (Lm hM Ir hkM)
 constructor
 .intro e;unfold kF iK at e;obtain⟨h1,h2⟩:=u_ (f:=fun x=>ja L (id x)) (g:=fun x=>ja M (id x)) hab.symm e
  have h3:=GV (R:=fun o q=>g.odM h ser o q=none/\∀ k,k<g.nmN o->ja L (g.ao_ o k)=ja M (h.ao_ q k)) (F:=g.apM ser L) (G:=h.apM ser M)
   (fun o=>by unfold HM.apM HM.apA;simp) (fun o=>by unfold HM.apM HM.apA;simp) (xs:=eL L) (ys:=eL M) (fun o ho q hq s t e=>by
    have io:=WL.2.2.1 o ho;have iq:=WM.2.2.1 q hq;unfold HM.apM iK at e;rw[aA,aA,aA,aA]at e;obtain⟨e1,e2,e3,e4,e5⟩:=Mq e;have Jo:h.nmN q=g.nmN o:=(by unfold HM.nmN Hd.apb;rw[e1,e2]);rw[Jo]at e5;obtain⟨e6,e7⟩:=u_ (f:=fun k=>ja L (g.ao_ o k)) (g:=fun k=>ja M (h.ao_ q k)) rfl e5;obtain⟨e8,e9⟩:=Mf Gg Gh io iq e1 e2 e3 e7;refine⟨⟨vN.2 ⟨e1,e2,e3,e4,e8⟩,fun k hk=>?_⟩,e9⟩;have:=e6 k (by simpa using hk);rw[ae,aH hk]at this;exact this) h2
  rw[fI,fI]at h3;refine⟨fun k hk=>(frP k hk).1 (h1 k hk),h3.1,fun i hi=>?_,fun i hi k hk=>?_⟩
  .have:=(h3.2 i hi).1
   rwa[jx,jx]at this
  .have:=h3.2 i hi;rw[jx,jx]at this;exact (nmP i hi (by omega) k hk (by rw[EJ _ _ this.1];exact hk)).1 (this.2 k hk)
 .intro A;unfold kF iK;rw[sj (f:=fun x=>ja L (id x)) (g:=fun x=>ja M (id x)) (xs:=a) (ys:=b) hab.symm (fun k hk=>(frP k hk).2 (A.fr k hk))];congr 1;refine Dn (by rw[fI,fI];exact A.len) (fun i hi=>?_);rw[fI]at hi;rw[jx,jx];have io:=Dj WL hi;have iq:=Dj WM (show i<M.length by rw[A.len];exact hi);obtain⟨e1,e2,e3,e4,e5⟩:=vN.1 (A.od i hi);have Jo:=EJ _ _ (A.od i hi);have Uf:g.apA ser (iw L i)=h.apA ser (iw M i):=by
   unfold HM.apA HM.ap0;rw[e1,e2,e3];cases ser
   .rfl
   .rw[e4 rfl]
  unfold HM.apM iK;rw[Uf,I7 Gg Gh io iq e1 e2 e3 e5,Jo];congr 2;refine sj (f:=fun k=>ja L (g.ao_ (iw L i) k)) (g:=fun k=>ja M (h.ao_ (iw M i) k)) rfl (fun k hk=>?_);have p_:k<g.nmN (iw L i):=by simpa using hk
  rw[ae,aH p_];exact (nmP i hi (by rw[A.len];exact hi) k p_ (by rw[Jo];exact p_)).2 (A.nm i hi k p_)
end
end
section
open Go.RowKit
attribute [local go_sem] au
def Ff (h:HM)(o:Nat)(w:World)(e:Ending)(w':World):Prop:=
 ∃ v,e= .returned v/\w'.ownsRow w.heap.size 32 1 v (h.fields o).length (eN (h.fields o))/\Below w.heap.size w w'
def KT (X:Hd):Array Value:=#[.int .i64 X.size,.int .i64 X.fmt,.int .i64 X.spare,.int .u32 X.cls,.int .u32 X.ser]
theorem Mk {h:HM}{ls:List Ob}(G:h.Good ls){o:Nat}(hi:h.isB o=true){k:Nat}(hk:k<(h.hd (o/2)).size):(h.fields o).take (k+1)=(h.fields o).take k++[fw h o k]:=by
 obtain⟨b,hb,e1,e2,ok,e3⟩:=nh G hi;have hk2:k<b.fs.length:=by have:=ok.size;rw[e1]at hk;omega
 rw[e2,aQ,af hk2,e3 k hk2,ae,af hk2];rfl
theorem Jd {h:HM}{ls:List Ob}(G:h.Good ls){o:Nat}(hi:h.isB o=true):(h.fields o).take (h.hd (o/2)).size=h.fields o:=by
 obtain⟨b,hb,e1,e2,ok,e3⟩:=nh G hi;rw[e2,e1,ok.size,List.take_length]
theorem Nj {h:HM}{ls:List Ob}(G:h.Good ls){o:Nat}(hi:h.isB o=true)(h2:(h.hd (o/2)).fmt=2):mO ((fg (h.fields o)).take (h.hd (o/2)).len)=h.fields o/\(h.hd (o/2)).len<=262140/\∀ x∈(fg (h.fields o)).take (h.hd (o/2)).len,x<256:=by
 obtain⟨b,hb,e1,e2,K,e3⟩:=nh G hi;have hlen:(h.hd (o/2)).len=4*b.fs.length-b.x.spare:=by unfold Hd.len;rw[if_pos h2,e1,K.size]
 refine⟨by rw[hlen,e2];exact ow (G.sound.spare b hb (by rw[<-e1];exact h2)) (by have:=K.fit.spare;omega) K.f32,?_,fun x hx=>?_⟩
 .have hm:=K.may;unfold Hd.may at hm;simp at hm;have:=K.size;omega
 .obtain⟨y,_,hy⟩:=List.mem_flatMap.1 (bn hx);simp[jZ]at hy;omega
theorem zj {w:World}{p:HP}{h:HM}{ls:List Ob}(H:fO w p h)(G:h.Good ls)(hh:h.apu)(hs:eX w)(o:Nat)(ho:o<4294967296)(hi:h.isB o=true)(h2:(h.hd (o/2)).fmt=2)(X:Hd)(hf:X.fmt=(h.hd (o/2)).fmt):
 Calls Tryz.prog 273 #[ptr p.g,.int .u32 o,X.val] w (Ff h o w):=by
 have f:=G.fit;have hb0:Below w.heap.size w (w.alloc (.cells (KT X) 75)):=(Below.refl _ _).alloc (ah _) _;have wC:=aa (wL (H.below hb0) f hh (hs.below hb0) o ho);have j8:=aa hb0;have HBE:=aa (xF G hi h2);have OP:=aa (nI G hi h2);have OV:=aa (Nj G hi h2);unfold KT at wC j8;unfold ptr at wC;unfold ptr Hd.val;have e2:((X.fmt:Int) == 2)=true:=by rw[hf,h2];rfl
 clear H hs hb0 h2 hi hf;generalize hX:h.hd (o/2)=Y at*;have HX:=aa hX;clear hX;go_enter Tryz.func273,Tryz.ntmps273;go_wp2_with fail;refine wC.o.mono ?_;rintro e w1 ⟨hb1,hby⟩;rw[if_pos HBE.o,HX.o]at hby
 obtain⟨gy,cy,rfl,hrow,hgy⟩:=hby
 have pT:=aa (oL (c:=Y.len) (some ⟨gy,0,none⟩) Y.len w1.heap.size _ OV.o.2.1 (uW hrow OP.o) (ah _) OV.o.2.2);have ko:=aa (eF j8.o hb1);clear hrow hb1;go_wp2_with fail;refine pT.o.mono ?_;rintro e w2 ⟨g2,rfl,hrow2,Ms,hb2⟩;rw[OV.o.1]at hrow2 ⊢;have tM:=aa (eF ko.o hb2);have HOW:=aa (show w2.ownsRow w.heap.size 32 1 (.slice (some ⟨g2,0,none⟩) (h.fields o).length (h.fields o).length) (h.fields o).length (eN (h.fields o)) from by
  obtain⟨cur,hb,hl,hm,hc,hx⟩:=hrow2;rw[eY]at hl;exact⟨by simp[eY],.inr ⟨g2,_,cur,rfl,aj ko.o.size Ms,hb,by simp,hm,by simpa using hc,by rw[eY]at hx;simp[hx]⟩⟩)
 clear hrow2 hb2 Ms pT;go_wp2_with fail;go_ret;exact⟨_,rfl,HOW.o,tM.o⟩
theorem zk {w:World}{p:HP}{h:HM}{ls:List Ob}(H:fO w p h)(G:h.Good ls)(hh:h.apu)(hs:eX w)(o:Nat)(ho:o<4294967296)(hi:h.isB o=true)(h3:(h.hd (o/2)).fmt=3)(X:Hd)(hf:X.fmt=(h.hd (o/2)).fmt)(hz:X.size=(h.hd (o/2)).size):
 Calls Tryz.prog 273 #[ptr p.g,.int .u32 o,X.val] w (Ff h o w):=by
 have f:=G.fit;have hb0:Below w.heap.size w (w.alloc (.cells (KT X) 75)):=(Below.refl _ _).alloc (ah _) _;have uQ:=aa (fun (wr:World) (hb:Below w.heap.size w wr) (k:Nat) (hk:k<X.size)=>DY (H.below hb) f hh (hs.below hb) ho hi h3 (show k<(h.hd (o/2)).size by omega));have HFW:=aa (fun k (hk:k<X.size)=>Mk G hi (show k<(h.hd (o/2)).size by omega));have Oc:=aa (show (h.fields o).take X.size=h.fields o by rw[hz];exact Jd G hi);have hsz:X.size<=1048576:=by rw[hz];exact nJ f (HM.aps hh hi)
 have OW:=aa (show (h.fields o).length=X.size by rw[hz];exact HM.fields_len (HM.aps hh hi));have j8:=aa hb0;have ae5:=aa (fun k=>HM.aqG f o k);unfold KT at j8;unfold ptr at uQ;unfold ptr Hd.val;have e2:((X.fmt:Int) == 2)=false:=by rw[hf,h3];rfl
 clear H hs hb0 h3 hi hf hz;obtain⟨i0,iF,hz0,hz1,hz2⟩:=info_parts jR;go_enter Tryz.func273,Tryz.ntmps273;go_wp2_with fail
 go_loopw [7,31] (fun v i wr=>∃ k:Nat,k<=X.size/\i= .int .i64 k/\wr.ownsRow w.heap.size 32 1 v k (eN ((h.fields o).take k))/\Below w.heap.size w wr) (fun _ i _=>X.size-(intOf i).toNat)
 case atStart=>exact⟨0,by omega,rfl,⟨rfl,.inl ⟨rfl,rfl⟩⟩,j8.o⟩
 case round=>
  clear j8;obtain⟨k,hk,rfl,hown,hb⟩:=hrel;by_cases hlt:k<X.size
  .have HB:=aa hb;have HOW:=aa hown;have Sv:=aa (uQ.o wr hb k hlt);have Bz:=aa (HFW.o k hlt);have Yd:=ae5.o k;clear hb hown;generalize fw h o k=v at*;go_wp2_with fail;refine Sv.o.mono ?_;rintro e w1 ⟨rfl,hb1⟩;have ko:=aa (eF HB.o hb1);have aae:=aa (fB HOW.o (fun q hq=>hb1.block q (HOW.o.lt q hq).2));have hBw:w.heap.size<=w1.heap.size:=ko.o.size;clear Sv hb1 HB HOW;go_wp2_with (at_builtin;refine eM _ rfl (.tmp 41) (.tmp 43) _ rfl w.heap.size 32 i0 _ 1 4 Tryz.underlying84 iF hz0 hz1 hz2 rfl (by omega) u7 k _ rfl (aae.o.alloc _) (w1.heap.size+1) (some ⟨w1.heap.size,0,none⟩) 1 1 (eN [v]) rfl ⟨rfl,fun _=>⟨_,rfl,by simp,cell_one_new _ _ _⟩⟩ (fU _) (by simp only[maxLen];omega) (by omega) (by simp;omega) ?_;intro v1 w5 fe hgrow j0);go_roundw
   case rel=>
    refine⟨k+1,by omega,by go_num,?_,?_⟩
    .rw[Bz.o];unfold eN at fe ⊢;rw[List.map_append];exact fe
    .have Ji:=(Below.refl w1.heap.size w1).alloc (ah _) (.cells #[.int .u32 v] 32);have hb2:=eF ko.o Ji;refine⟨hgrow.os.trans hb2.os,hgrow.tape.trans hb2.tape,hgrow.output.trans hb2.output,aj hb2.size hgrow.size,fun q hq=>(hgrow.block q (ai hq hb2.size) (fun e=>?_)).trans (hb2.block q hq)⟩;have:=(aae.o.lt q e.symm).1;omega
   case measure=>simp[intOf];omega
  .obtain rfl:k=X.size:=(by omega);have HOW:=aa hown;have HB:=aa hb;rw[Oc.o]at HOW;clear hown hb hlt hk;go_wp2_with fail;go_ret;exact⟨_,rfl,by rw[OW.o];exact HOW.o,HB.o⟩
theorem uX {w:World}{p:HP}{h:HM}{ls:List Ob}(H:fO w p h)(G:h.Good ls)(hh:h.apu)(hs:eX w)(o:Nat)(ho:o<4294967296)(hi:h.isB o=true)(hp:(h.hd (o/2)).apb=false)(X:Hd)(hf:X.fmt=(h.hd (o/2)).fmt)(hz:X.size=(h.hd (o/2)).size):
 Calls Tryz.prog 273 #[ptr p.g,.int .u32 o,X.val] w (Ff h o w):=by
 have Qd:=FZ G hi;have hf2:(h.hd (o/2)).fmt=2\/(h.hd (o/2)).fmt=3:=by unfold Hd.apb at hp;simp at hp;omega
 rcases hf2 with h2|h3
 .exact zj H G hh hs o ho hi h2 X hf
 .exact zk H G hh hs o ho hi h3 X hf hz
end
section
open Go.RowKit Go.Maps
attribute [local go_sem] au
theorem Q_ (l:List Int):∀ u∈jE l,u.oneCell'=true:=by
 intro u hu;obtain⟨x,_,rfl⟩:=List.mem_map.1 hu;rfl
theorem sf {w:World}{ad:Addr}{n c:Nat}{path:List Int}(hr:eQ w w.heap.size 1 (some ad) n (jE path))(hn:0<n)(hm:n<=10000000):
 Calls Tryz.prog 247 #[.slice (some ad) n c] w (pU 3 (jE path) w):=by
 obtain⟨i0,iF,hz0,hz1,hz2⟩:=info_parts zG;have hnil:=fun w=>Lib.run_eql_slice_nil (P:=Tryz.prog) w 211 3 (some ad) n c 0 0 Tryz.underlying211;have hl:(jE path).length=n:=by have:=hr.1;omega
 have HL:=aa hl;have uz:=aa (hr.alloc (ah _) (.cells #[] 3));clear hr hl;go_enter Tryz.func247,Tryz.ntmps247;go_wp2_with (at_builtin;refine eM _ rfl (.tmp 5) (.tmp 6) _ rfl w.heap.size 3 i0 _ 1 8 Tryz.underlying211 iF hz0 hz1 hz2 rfl (by omega) (.slice (some ⟨w.heap.size,0,none⟩) 0 0) 0 [] rfl (mD w _) _ (some ad) n c (jE path) rfl uz.o (Q_ _) (by simp only[maxLen];omega) (by omega) (by simp) ?_;intro v1 w1 hown1 hg1 wR);have hb1:Below w.heap.size w w1:=((Below.refl _ _).alloc (ah _) _).grown hg1 (by simp) (fun k hk=>by simp[aP]at hk;omega);rw[aV,aM]at hown1;obtain⟨g1,c1,rfl,hrow,hlen,mS⟩:=Row.apk hown1 hn;clear hown1 hg1 wR;go_wp2_with fail;go_ret;exact⟨g1,c1,by rw[HL.o];rfl,hrow,mS,hb1⟩
structure PA where
 gP:Nat
 gA:Nat
 mA:Nat
 gB:Nat
 mB:Nat
structure kI where
 vmA:Value
 vdA:Value
 vmB:Value
 vdB:Value
 vp:Value
def PA.has (x:PA)(k:Nat):Prop:=k=x.gP\/k=x.gA\/k=x.mA\/k=x.gB\/k=x.mB
def kI.has (r:kI)(k:Nat):Prop:=r.vmA.ownBlock=some k\/r.vdA.ownBlock=some k\/r.vmB.ownBlock=some k\/r.vdB.ownBlock=some k\/r.vp.ownBlock=some k
def KA (w:World)(B:Nat)(v:Value)(path:List Int)(vdA vdB:Value):Prop:=
 ∃ g c,v= .slice (some ⟨g,0,none⟩) path.length c/\Row w g 3 c (jE path)/\B<=g/\vdA.ownBlock≠some g/\vdB.ownBlock≠some g
structure na (w:World) (B:Nat) (x:PA) (kU kV:Value) (r:kI) (t0 t1 t2:Value) (l m lw:List Nd) (ps:List Value):Prop where
 box:eW w x.gP 289 #[.pointer (some ⟨x.gA,0,none⟩),.pointer (some ⟨x.gB,0,none⟩),r.vp,t0,t1,t2]
 ga:ra w B x.gA x.mA kU r.vmA r.vdA l
 gb:ra w B x.gB x.mB kV r.vmB r.vdB m
 paths:w.ownsRow B 211 1 r.vp ps.length ps
 apY:ps.length=lw.length
 ways:∀ i,i<lw.length->KA w B (ps.getD i undef) (fQ lw i) r.vdA r.vdB
 hP:B<=x.gP
 neG:x.gA≠x.gB
 neM:x.mA≠x.mB
 neV:∀ k,r.vmA.ownBlock=some k->r.vmB.ownBlock≠some k
 neD:∀ k,r.vdA.ownBlock=some k->r.vdB.ownBlock≠some k
section
variable {w w':World}{B:Nat}{x:PA}{kU kV:Value}{r r':kI}{t0 t1 t2:Value}{l m lw l' m':List Nd}{ps:List Value}
theorem KA.below {v:Value}{path:List Int}(h:KA w B v path r.vdA r.vdB)(hb:Below w.heap.size w w'):KA w' B v path r.vdA r.vdB:=by
 obtain⟨g,c,h1,h2,h3⟩:=h;exact⟨g,c,h1,h2.below hb,h3⟩
theorem na.below (P:na w B x kU kV r t0 t1 t2 l m lw ps)(hb:Below w.heap.size w w'):na w' B x kU kV r t0 t1 t2 l m lw ps:=
 ⟨P.box.below hb P.box.lt,P.ga.below hb,P.gb.below hb,fB P.paths (fun k hk=>hb.block k (P.paths.lt k hk).2),P.apY,fun i hi=>(P.ways i hi).below hb,P.hP,P.neG,P.neM,P.neV,P.neD⟩
theorem ra.far {gG mB:Nat}{hv vm vd:Value}(G:ra w B gG mB hv vm vd l){g:Nat}{t:TypeId}{cs:Array Value}(b:eW w g t cs)(ht:227≠t)(h1:54≠t)(h2:3≠t)(u:Value)(i:Nat):ra (w.setCell ⟨g,i,none⟩ u) B gG mB hv vm vd l:=by
 have hk:∀ k,k≠g->(w.setCell ⟨g,i,none⟩ u).heap[k]? = w.heap[k]? :=fun k hk=>Below.heap_setCell w ⟨g,i,none⟩ u k hk;refine⟨G.box.same (hk _ (G.box.ne_ b ht)),fB G.met (fun k h=>hk k (fun e=>by subst e;exact eU G.met b h1 h)),fB G.deep (fun k h=>hk k (fun e=>by subst e;exact eU G.deep b h2 h)),G.num.same (hk _ ?_),G.hg,G.hm,by simpa[az] using G.hB⟩;rintro rfl;obtain⟨D,_,⟨es,clock,hb,r⟩,_⟩:=G.num;unfold eW at b;rw[b]at hb;injection hb with hb;cases hb
theorem na.told (P:na w B x kU kV r t0 t1 t2 l m lw ps)(u0 u1 u2:Value):
 na (((w.setCell ⟨x.gP,3,none⟩ u0).setCell ⟨x.gP,4,none⟩ u1).setCell ⟨x.gP,5,none⟩ u2) B x kU kV r u0 u1 u2 l m lw ps:=by
 have b1:=P.box.apg 3 u0;have b2:=b1.apg 4 u1
 have hk:∀ k,k≠x.gP->(((w.setCell ⟨x.gP,3,none⟩ u0).setCell ⟨x.gP,4,none⟩ u1).setCell ⟨x.gP,5,none⟩ u2).heap[k]? = w.heap[k]? :=fun k hk=>
  (Below.heap_setCell _ ⟨x.gP,5,none⟩ u2 k hk).trans ((Below.heap_setCell _ ⟨x.gP,4,none⟩ u1 k hk).trans (Below.heap_setCell w ⟨x.gP,3,none⟩ u0 k hk))
 refine⟨b2.apg 5 u2,((P.ga.far P.box (by decide) (by decide) (by decide) u0 3).far b1 (by decide) (by decide) (by decide) u1 4).far b2 (by decide) (by decide) (by decide) u2 5,
  ((P.gb.far P.box (by decide) (by decide) (by decide) u0 3).far b1 (by decide) (by decide) (by decide) u1 4).far b2 (by decide) (by decide) (by decide) u2 5,
  fB P.paths (fun k h=>hk k (fun e=>by subst e;exact eU P.paths P.box (by decide) h)),P.apY,fun i hi=>?_,P.hP,P.neG,P.neM,P.neV,P.neD⟩
 obtain⟨g,c,h1,h2,h3⟩:=P.ways i hi;exact⟨g,c,h1,h2.same (hk g (h2.aph P.box (by decide))),h3⟩
structure ik (x:PA) (r r':kI) (w w':World):Prop where
 os:w'.os=w.os
 tape:w'.tape=w.tape
 output:w'.output=w.output
 size:w.heap.size<=w'.heap.size
 block:∀ k,k<w.heap.size->¬ x.has k->¬ r.has k->w'.heap[k]? = w.heap[k]?
 rows:∀ k,r'.has k->r.has k\/w.heap.size<=k
theorem ik.trans {a b c:World}{r2:kI}(h:ik x r r' a b)(k:ik x r' r2 b c):ik x r r2 a c:=by
 refine⟨k.os.trans h.os,k.tape.trans h.tape,k.output.trans h.output,aj h.size k.size,fun i hi h1 h2=>?_,fun i hi=>?_⟩
 .refine (k.block i (ai hi h.size) h1 (fun e=>?_)).trans (h.block i hi h1 h2);rcases h.rows i e with e'|e'
  .exact h2 e'
  .omega
 .rcases k.rows i hi with e|e
  .exact h.rows i e
  .right;have:=h.size;omega
theorem ik.apa (hb:Below w.heap.size w w'):ik x r r w w':=⟨hb.os,hb.tape,hb.output,hb.size,fun k hk _ _=>hb.block k hk,fun _ h=> .inl h⟩
def pP (B:Nat)(x:PA)(kU kV:Value)(r:kI)(l m lw:List Nd)(ps:List Value)(kd:Nat)(path:List Int)(at_:Nat)(w:World)(e:Ending)(w':World):Prop:=
 e= .returned (.bool true)/\ik x r r w w'/\∃ g c,na w' B x kU kV r (.int .i64 kd) (.slice (some ⟨g,0,none⟩) path.length c) (.int .i64 at_) l m lw ps/\Row w' g 3 c (jE path)/\w.heap.size<=g
theorem zn (P:na w B x kU kV r t0 t1 t2 l m lw ps){ad:Addr}{n c:Nat}{path:List Int}(hr:eQ w w.heap.size 1 (some ad) n (jE path))(hn:0<n)(hm:n<=10000000)(kd at_:Nat)(hk:kd<=255):
 Calls Tryz.prog 272 #[.pointer (some ⟨x.gP,0,none⟩),.int .i64 kd,.slice (some ad) n c,.int .i64 at_] w (pP B x kU kV r l m lw ps kd path at_ w):=by
 have HC:=aa (sf (c:=c) hr hn hm);have hB:=P.ga.hB;have HP:=aa P;clear hr P;go_enter Tryz.func272,Tryz.ntmps272;go_wp2_with fail;refine HC.o.mono ?_;rintro e w1 ⟨g,c1,rfl,hrow,mS,hb⟩;have Cx:=aa (HP.o.below hb);have k3:=Cx.o.box.cell 3;have k4:=Cx.o.box.cell 4;have k5:=Cx.o.box.cell 5;have z3:=Cx.o.box.frozen 3;have z4:=Cx.o.box.frozen 4;have z5:=Cx.o.box.frozen 5;rw[jf]at*;have HT:=aa (Cx.o.told (.int .i64 kd) (.slice (some ⟨g,0,none⟩) path.length c1) (.int .i64 at_));have HR:=aa (show g≠x.gP from hrow.aph Cx.o.box (by decide));have HS:=aa (ik.apa (x:=x) (r:=r) hb);have Ks:=Cx.o.hP;clear HC hb;go_wp2_with fail;go_ret;refine⟨rfl,HS.o.trans ⟨rfl,rfl,rfl,by simp[az],fun k hk h1 _=>?_,fun _ h=> .inl h⟩,g,c1,HT.o,((hrow.far (p:=⟨x.gP,3,none⟩) HR.o _).far (p:=⟨x.gP,4,none⟩) HR.o _).far (p:=⟨x.gP,5,none⟩) HR.o _,mS⟩;have hne:k≠x.gP:=fun e=>h1 (.inl e);exact (Below.heap_setCell _ ⟨x.gP,5,none⟩ _ k hne).trans ((Below.heap_setCell _ ⟨x.gP,4,none⟩ _ k hne).trans (Below.heap_setCell w1 ⟨x.gP,3,none⟩ _ k hne))
theorem jF {g mB:Nat}{t K:TypeId}{cs:Array Value}{n:Nat}{ff:Nat->Nat}{hs:Nat->Bool}(b:eW w g t cs)(M:iV K w mB n ff hs):g≠mB:=by
 rintro rfl;obtain⟨D,_,⟨es,clock,hb,r⟩,_⟩:=M;unfold eW at b;rw[b]at hb;injection hb with hb;cases hb
theorem ra.keep {gG mB:Nat}{hv vm vd:Value}(G:ra w B gG mB hv vm vd l)(hz:w.heap.size<=w'.heap.size)
 (hk:∀ k,k<w.heap.size->(k=gG\/k=mB\/vm.ownBlock=some k\/vd.ownBlock=some k)->w'.heap[k]? = w.heap[k]?):ra w' B gG mB hv vm vd l:=
 ⟨G.box.same (hk _ G.box.lt (.inl rfl)),fB G.met (fun k h=>hk k (G.met.lt k h).2 (.inr (.inr (.inl h)))),fB G.deep (fun k h=>hk k (G.deep.lt k h).2 (.inr (.inr (.inr h)))),
   G.num.same (hk _ G.num.lt (.inr (.inl rfl))),G.hg,G.hm,aj G.hB hz⟩
theorem na.meetA {tx tv:Value}(P:na w B x kU kV r t0 t1 t2 l m lw ps)(G':ra w' B x.gA x.mA kU tx tv l')(s:GStep w w' x.gA x.mA r.vmA r.vdA tx tv):
 na w' B x kU kV { r with vmA:=tx,vdA:=tv } t0 t1 t2 l' m lw ps/\ik x r { r with vmA:=tx,vdA:=tv } w w':=by
 have hgb:∀ k,k<w.heap.size->(k=x.gB\/k=x.mB\/r.vmB.ownBlock=some k\/r.vdB.ownBlock=some k)->w'.heap[k]? = w.heap[k]? :=fun k hk hc=>by
  rcases hc with rfl|rfl|h|h
  .exact s.block _ hk (fun e=>P.neG e.symm) (jF P.gb.box P.ga.num) (eU P.ga.met P.gb.box (by decide)) (eU P.ga.deep P.gb.box (by decide))
  .exact s.block _ hk (fun e=>jF P.ga.box P.gb.num e.symm) (fun e=>P.neM e.symm) (fJ P.ga.met P.gb.num) (fJ P.ga.deep P.gb.num)
  .exact s.block _ hk (fun e=>eU P.gb.met P.ga.box (by decide) (e ▸ h)) (fun e=>fJ P.gb.met P.ga.num (e ▸ h)) (fun e=>P.neV _ e h) (jh P.gb.met P.ga.deep (by decide) _ h)
  .exact s.block _ hk (fun e=>eU P.gb.deep P.ga.box (by decide) (e ▸ h)) (fun e=>fJ P.gb.deep P.ga.num (e ▸ h)) (jh P.gb.deep P.ga.met (by decide) _ h) (fun e=>P.neD _ e h)
 have hvp:∀ k,r.vp.ownBlock=some k->w'.heap[k]? = w.heap[k]? :=fun k h=>
  s.block _ (P.paths.lt k h).2 (fun e=>eU P.paths P.ga.box (by decide) (e ▸ h)) (fun e=>fJ P.paths P.ga.num (e ▸ h)) (jh P.paths P.ga.met (by decide) _ h) (jh P.paths P.ga.deep (by decide) _ h)
 refine⟨⟨P.box.same (s.blk P.ga P.box (by decide) (by decide) (by decide)),G',P.gb.keep s.size hgb,fB P.paths hvp,P.apY,fun i hi=>?_,P.hP,P.neG,P.neM,fun k h=>?_,fun k h=>?_⟩,
  ⟨s.os,s.tape,s.output,s.size,fun k hk h1 h2=>s.block k hk (fun e=>h1 (.inr (.inl e))) (fun e=>h1 (.inr (.inr (.inl e)))) (fun e=>h2 (.inl e)) (fun e=>h2 (.inr (.inl e))),fun k h=>?_⟩⟩
 .obtain⟨g,c,h1,h2,h3,h4,h5⟩:=P.ways i hi;obtain⟨cur,Ew,_⟩:=id h2;refine⟨g,c,h1,h2.same (s.block g h2.lt (h2.aph P.ga.box (by decide)) (jF Ew P.ga.num) (eU P.ga.met Ew (by decide)) h4),h3,fun e=>?_,h5⟩;rcases s.rd g e with e'|e'
  .exact h4 e'
  .have:=h2.lt;omega
 .rcases s.rm k h with e|e
  .exact P.neV k e
  .exact fun e2=>by have:=(P.gb.met.lt k e2).2;omega
 .rcases s.rd k h with e|e
  .exact P.neD k e
  .exact fun e2=>by have:=(P.gb.deep.lt k e2).2;omega
 .rcases h with h|h|h|h|h
  .rcases s.rm k h with e|e
   .exact .inl (.inl e)
   .exact .inr e
  .rcases s.rd k h with e|e
   .exact .inl (.inr (.inl e))
   .exact .inr e
  .exact .inl (.inr (.inr (.inl h)))
  .exact .inl (.inr (.inr (.inr (.inl h))))
  .exact .inl (.inr (.inr (.inr (.inr h))))
theorem na.meetB {tx tv:Value}(P:na w B x kU kV r t0 t1 t2 l m lw ps)(G':ra w' B x.gB x.mB kV tx tv m')(s:GStep w w' x.gB x.mB r.vmB r.vdB tx tv):
 na w' B x kU kV { r with vmB:=tx,vdB:=tv } t0 t1 t2 l m' lw ps/\ik x r { r with vmB:=tx,vdB:=tv } w w':=by
 have VH:∀ k,k<w.heap.size->(k=x.gA\/k=x.mA\/r.vmA.ownBlock=some k\/r.vdA.ownBlock=some k)->w'.heap[k]? = w.heap[k]? :=fun k hk hc=>by
  rcases hc with rfl|rfl|h|h
  .exact s.block _ hk (fun e=>P.neG e) (jF P.ga.box P.gb.num) (eU P.gb.met P.ga.box (by decide)) (eU P.gb.deep P.ga.box (by decide))
  .exact s.block _ hk (fun e=>jF P.gb.box P.ga.num e.symm) (fun e=>P.neM e) (fJ P.gb.met P.ga.num) (fJ P.gb.deep P.ga.num)
  .exact s.block _ hk (fun e=>eU P.ga.met P.gb.box (by decide) (e ▸ h)) (fun e=>fJ P.ga.met P.gb.num (e ▸ h)) (fun e=>P.neV _ h e) (jh P.ga.met P.gb.deep (by decide) _ h)
  .exact s.block _ hk (fun e=>eU P.ga.deep P.gb.box (by decide) (e ▸ h)) (fun e=>fJ P.ga.deep P.gb.num (e ▸ h)) (jh P.ga.deep P.gb.met (by decide) _ h) (fun e=>P.neD _ h e)
 have hvp:∀ k,r.vp.ownBlock=some k->w'.heap[k]? = w.heap[k]? :=fun k h=>
  s.block _ (P.paths.lt k h).2 (fun e=>eU P.paths P.gb.box (by decide) (e ▸ h)) (fun e=>fJ P.paths P.gb.num (e ▸ h)) (jh P.paths P.gb.met (by decide) _ h) (jh P.paths P.gb.deep (by decide) _ h)
 refine⟨⟨P.box.same (s.blk P.gb P.box (by decide) (by decide) (by decide)),P.ga.keep s.size VH,G',fB P.paths hvp,P.apY,fun i hi=>?_,P.hP,P.neG,P.neM,fun k h=>?_,fun k h=>?_⟩,
  ⟨s.os,s.tape,s.output,s.size,fun k hk h1 h2=>s.block k hk (fun e=>h1 (.inr (.inr (.inr (.inl e))))) (fun e=>h1 (.inr (.inr (.inr (.inr e))))) (fun e=>h2 (.inr (.inr (.inl e)))) (fun e=>h2 (.inr (.inr (.inr (.inl e))))),fun k h=>?_⟩⟩
 .obtain⟨g,c,h1,h2,h3,h4,h5⟩:=P.ways i hi;obtain⟨cur,Ew,_⟩:=id h2;refine⟨g,c,h1,h2.same (s.block g h2.lt (h2.aph P.gb.box (by decide)) (jF Ew P.gb.num) (eU P.gb.met Ew (by decide)) h5),h3,h4,fun e=>?_⟩;rcases s.rd g e with e'|e'
  .exact h5 e'
  .have:=h2.lt;omega
 .intro e;rcases s.rm k e with e'|e'
  .exact P.neV k h e'
  .have:=(P.ga.met.lt k h).2;omega
 .intro e;rcases s.rd k e with e'|e'
  .exact P.neD k h e'
  .have:=(P.ga.deep.lt k h).2;omega
 .rcases h with h|h|h|h|h
  .exact .inl (.inl h)
  .exact .inl (.inr (.inl h))
  .rcases s.rm k h with e|e
   .exact .inl (.inr (.inr (.inl e)))
   .exact .inr e
  .rcases s.rd k h with e|e
   .exact .inl (.inr (.inr (.inr (.inl e))))
   .exact .inr e
  .exact .inl (.inr (.inr (.inr (.inr h))))
theorem na.way {OC v:Value}{path:List Int}{lw':List Nd}(P:na w B x kU kV r t0 t1 t2 l m lw ps)(hg:fG w w' r.vp OC)(hown:w'.ownsRow B 211 1 OC (ps++[v]).length (ps++[v])){g c:Nat}(hv:v= .slice (some ⟨g,0,none⟩) path.length c)
 (hrow:Row w g 3 c (jE path))(hB:B<=g)(hA:r.vdA.ownBlock≠some g)(KO:r.vdB.ownBlock≠some g)(zC:lw'.length=lw.length+1)(hold:∀ i,i<lw.length->fQ lw' i=fQ lw i)(mU:fQ lw' lw.length=path):
 na (w'.setCell ⟨x.gP,2,none⟩ OC) B x kU kV { r with vp:=OC } t0 t1 t2 l m lw' (ps++[v])/\ik x r { r with vp:=OC } w (w'.setCell ⟨x.gP,2,none⟩ OC):=by
 have Mo:eW w' x.gP 289 #[.pointer (some ⟨x.gA,0,none⟩),.pointer (some ⟨x.gB,0,none⟩),r.vp,t0,t1,t2]:=P.box.same (hg.g.block _ P.box.lt (fun e=>eU P.paths P.box (by decide) e.symm))
 have hk:∀ k,k<w.heap.size->k≠x.gP->r.vp.ownBlock≠some k->(w'.setCell ⟨x.gP,2,none⟩ OC).heap[k]? = w.heap[k]? :=fun k h1 h2 h3=>
  (Below.heap_setCell w' ⟨x.gP,2,none⟩ _ k h2).trans (hg.g.block k h1 (fun e=>h3 e.symm))
 have hz:(w'.setCell ⟨x.gP,2,none⟩ OC).heap.size=w'.heap.size:=by simp[az]
 have hgr:∀ {gG mB:Nat} {hv vm vd:Value} {la:List Nd},ra w B gG mB hv vm vd la->ra (w'.setCell ⟨x.gP,2,none⟩ OC) B gG mB hv vm vd la:=fun {gG mB hv vm vd la} G=>G.keep (by rw[hz];exact hg.size) (fun k h1 hc=>by
  refine hk k h1 ?_ ?_
  .rcases hc with rfl|rfl|h|h
   .exact G.box.ne_ P.box (by decide)
   .exact fun e=>jF P.box G.num e.symm
   .rintro rfl;exact eU G.met P.box (by decide) h
   .rintro rfl;exact eU G.deep P.box (by decide) h
  .rcases hc with rfl|rfl|h|h
   .exact eU P.paths G.box (by decide)
   .exact fJ P.paths G.num
   .exact jh G.met P.paths (by decide) k h
   .exact jh G.deep P.paths (by decide) k h)
 have hvp:OC.ownBlock≠some x.gP:=fun e=>by
  rcases hg.at_ _ e with e'|e'
  .exact eU P.paths P.box (by decide) e'
  .have:=P.box.lt;omega
 have hw2:∀ {g2 c2:Nat} {q:List Int},Row w g2 3 c2 (jE q)->Row (w'.setCell ⟨x.gP,2,none⟩ OC) g2 3 c2 (jE q):=fun {g2 c2 q} h=>by
  obtain⟨cur,Ew,_⟩:=id h;exact h.same (hk g2 h.lt (h.aph P.box (by decide)) (eU P.paths Ew (by decide)))
 refine⟨⟨Mo.apg 2 OC,hgr P.ga,hgr P.gb,fB hown (fun k h=>Below.heap_setCell w' ⟨x.gP,2,none⟩ _ k (fun (e:k=x.gP)=>hvp (by rw[<-e];exact h))),by rw[ax,P.apY,zC];rfl,fun i hi=>?_,P.hP,P.neG,P.neM,P.neV,P.neD⟩,
  ⟨hg.g.os,hg.g.tape,hg.g.output,by rw[hz];exact hg.size,fun k h1 h2 h3=>hk k h1 (fun e=>h2 (.inl e)) (fun e=>h3 (.inr (.inr (.inr (.inr e))))),fun k h=>?_⟩⟩
 .rcases aT i lw.length with uE|uE
  .obtain⟨g2,c2,h1,h2,h3⟩:=P.ways i uE;refine⟨g2,c2,?_,?_,h3⟩
   .rw[ae,aS (by rw[P.apY];exact uE),<-ae,h1,hold i uE]
   .rw[hold i uE];exact hw2 h2
  .obtain rfl:i=lw.length:=(by omega);refine⟨g,c,?_,?_,hB,hA,KO⟩
   .rw[ae,List.getElem?_append_right (by rw[P.apY];exact ah _),P.apY,Nat.sub_self,mU];exact hv
   .rw[mU];exact hw2 hrow
 .rcases h with h|h|h|h|h
  .exact .inl (.inl h)
  .exact .inl (.inr (.inl h))
  .exact .inl (.inr (.inr (.inl h)))
  .exact .inl (.inr (.inr (.inr (.inl h))))
  .rcases hg.at_ k h with e|e
   .exact .inl (.inr (.inr (.inr (.inr e))))
   .exact .inr e
end
end
section
open Go.RowKit Go.Maps Go.Sort
attribute [local go_sem] au
theorem JV {l m:List Nd}{v u:Nat}(h:eR v≠eR u):gj l m v u=1:=by unfold gj;rw[if_pos h]
theorem JW {l m:List Nd}{v u:Nat}(h:eR v=eR u)(h0:eR v=0):gj l m v u=0:=by unfold gj;rw[if_neg (by simpa using h),if_pos h0]
theorem G4 {l m:List Nd}{v u:Nat}(h:eR v=eR u)(h1:eR v=1):gj l m v u=if v=u then 0 else 2:=by unfold gj;rw[if_neg (by simpa using h),if_neg (by omega),if_pos h1]
theorem Nk {l m:List Nd}{v u:Nat}(h:eR v=eR u)(h2:eR v=2):gj l m v u=if iZ l v=iZ m u then 0 else 6:=by unfold gj;rw[if_neg (by simpa using h),if_neg (by omega),if_neg (by omega)]
theorem MN:(Tryz.prog.info? 211).map (fun i=>(i.zero,i.size,i.bytes))=some (some (.slice none 0 0),1,24):=by kernel_rfl
theorem eQ.ofBlock {w w':World}{B B' n:Nat}{ad:Addr}{xs:List Value}(h:eQ w B 1 (some ad) n xs)(hs:w'.heap[ad.block]? = w.heap[ad.block]?)(hB:ad.block<B'):eQ w' B' 1 (some ad) n xs:=by
 refine⟨h.1,fun h0=>?_⟩;obtain⟨Vp,e,_,hc⟩:=h.2 h0;injection e with e;subst e;exact⟨ad,rfl,hB,fun j u hu=>(aD (by rw[gi];exact hs)).trans (hc j u hu)⟩
def Kz (B:Nat)(x:PA)(kU kV:Value)(r:kI)(t0 t1 t2:Value)(l m:List Nd)(ps:List Value)(v u:Nat)(par fld:Int)(path:List Int)(w:World)(e:Ending)(w':World):Prop:=
 (gj l m v u=0/\e= .returned (.bool false)/\∃ r' Zh,na w' B x kU kV r' t0 t1 t2 (fK l v par fld 0) (fK m u par fld 0) (fK l v par fld 0) Zh/\ik x r r' w w')\/
  (gj l m v u≠0/\pP B x kU kV r l m l ps (gj l m v u) path 0 w e w')
theorem A_ {w:World}{B:Nat}{x:PA}{kU kV:Value}{r:kI}{t0 t1 t2:Value}{l m:List Nd}{ps:List Value}(P:na w B x kU kV r t0 t1 t2 l m l ps)(hl2:∀ y∈eL l,eR y=2)(wy:∀ y∈eL m,eR y=2)
 (v u:Nat)(hv:v<4294967296)(hu:u<4294967296){ad:Addr}{n c:Nat}{path:List Int}(hr:eQ w w.heap.size 1 (some ad) n (jE path))(hn:0<n)(hm:n<=10000000)(hxb:¬ x.has ad.block)(K3:¬ r.has ad.block)
 (S:Side l m)(par fld:Int)(hpl:par<(l.length:Int))(tG:path=if par<0 then [fld] else fQ l par.toNat++[fld])(Mw:l.length<=4000000):
 Calls Tryz.prog 245 #[.pointer (some ⟨x.gP,0,none⟩),.int .u32 v,.int .u32 u,.slice (some ad) n c] w (Kz B x kU kV r t0 t1 t2 l m ps v u par fld path w):=by
 have yw:=aa (o8 v hv w);have Oe:=aa (o8 u hu w);have yu:=aa (fun kd (hk:kd<=255)=>zn P (c:=c) hr hn hm kd 0 hk);have HP:=aa P;have HS:=aa S;have hkv:eR v=0\/eR v=1\/eR v=2:=by unfold eR;split <;> (try split) <;> simp
 by_cases CQ:eR v=eR u
 case neg=>
  have pT:=aa (JV (l:=l) (m:=m) CQ);have en:((eR v:Int) != (eR u:Int))=true:=by simp;omega
  have HD:=aa (yu.o 1 (by omega));clear CQ hkv hr P S yu tG hl2 wy;generalize eR v=kv at*;generalize eR u=ku at*;go_enter Tryz.func245,Tryz.ntmps245;go_wp2_with fail;refine yw.o.mono ?_;rintro e w1 ⟨rfl,rfl⟩;go_wp2_with fail;refine Oe.o.mono ?_;rintro e w1 ⟨rfl,rfl⟩;go_wp2_with fail;refine HD.o.mono ?_;rintro e w1 ⟨rfl,hD⟩;go_wp2_with fail;go_ret;exact .inr ⟨by rw[pT.o];decide,by rw[pT.o];exact⟨rfl,hD⟩⟩
 case pos=>
 rw[<-CQ]at Oe;rcases hkv with h0|h1|h2
 .have pT:=aa (JW (l:=l) (m:=m) CQ h0);have uy:=aa (show fK l v par fld 0=l/\fK m u par fld 0=m from⟨jd (fun e=>by omega),jd (fun e=>by omega)⟩);rw[h0]at yw Oe;clear CQ h0 hr P S yu tG hl2 wy;go_enter Tryz.func245,Tryz.ntmps245;go_wp2_with fail;refine yw.o.mono ?_;rintro e w1 ⟨rfl,rfl⟩;go_wp2_with fail;refine Oe.o.mono ?_;rintro e w1 ⟨rfl,rfl⟩;go_wp2_with fail;refine yw.o.mono ?_;rintro e w1 ⟨rfl,rfl⟩;go_wp2_with fail;go_ret;exact .inl ⟨pT.o,rfl,r,ps,by rw[uy.o.1,uy.o.2];exact HP.o,.apa (Below.refl _ _)⟩
 .have uy:=aa (show fK l v par fld 0=l/\fK m u par fld 0=m from⟨jd (fun e=>by omega),jd (fun e=>by omega)⟩);have yU:=aa (G4 (l:=l) (m:=m) CQ h1);rw[h1]at yw Oe;by_cases hvu:v=u
  .have pT:=aa (show gj l m v u=0 by rw[yU.o,if_pos hvu]);have en:((v:Int) != (u:Int))=false:=(by simp[hvu]);clear CQ h1 hr P S yu tG hl2 wy hvu yU;go_enter Tryz.func245,Tryz.ntmps245;go_wp2_with fail;refine yw.o.mono ?_;rintro e w1 ⟨rfl,rfl⟩;go_wp2_with fail;refine Oe.o.mono ?_;rintro e w1 ⟨rfl,rfl⟩;go_wp2_with fail;refine yw.o.mono ?_;rintro e w1 ⟨rfl,rfl⟩;go_wp2_with fail;refine yw.o.mono ?_;rintro e w1 ⟨rfl,rfl⟩;go_wp2_with fail;go_ret;exact .inl ⟨pT.o,rfl,r,ps,by rw[uy.o.1,uy.o.2];exact HP.o,.apa (Below.refl _ _)⟩
  .have pT:=aa (show gj l m v u=2 by rw[yU.o,if_neg hvu]);have en:((v:Int) != (u:Int))=true:=(by simp;omega);have HD:=aa (yu.o 2 (by omega));clear CQ h1 hr P S yu tG hl2 wy hvu yU;go_enter Tryz.func245,Tryz.ntmps245;go_wp2_with fail;refine yw.o.mono ?_;rintro e w1 ⟨rfl,rfl⟩;go_wp2_with fail;refine Oe.o.mono ?_;rintro e w1 ⟨rfl,rfl⟩;go_wp2_with fail;refine yw.o.mono ?_;rintro e w1 ⟨rfl,rfl⟩;go_wp2_with fail;refine yw.o.mono ?_;rintro e w1 ⟨rfl,rfl⟩;go_wp2_with fail;refine HD.o.mono ?_;rintro e w1 ⟨rfl,hD⟩;go_wp2_with fail;go_ret;exact .inr ⟨by rw[pT.o];decide,by rw[pT.o];exact⟨rfl,hD⟩⟩
 .have yU:=aa (Nk (l:=l) (m:=m) CQ h2);have IC:=aa (show eR v=2/\eR u=2 from⟨h2,by omega⟩);rw[h2]at yw Oe;have Qo:=P.ga.num.look_ok G0 hv;have Ui:=P.gb.num.look_ok G0 hu;have p0:=P.box.cell 0;have p1:=P.box.cell 1;have a2:=P.ga.box.cell 2;have b2:=P.gb.box.cell 2;have hnA:=yF l v;have hnB:=yF m u;rw[S.len]at hnB;by_cases tq:iZ l v=iZ m u
  .by_cases kM:v∈eL l
   .have Y_:u∈eL m:=mN.1 (by rw[<-tq];exact mN.2 kM);have pT:=aa (show gj l m v u=0 by rw[yU.o,if_pos tq]);have uy:=aa (show fK l v par fld 0=l/\fK m u par fld 0=m from⟨jd (fun e=>e.2 kM),jd (fun e=>e.2 Y_)⟩);rw[decide_eq_true kM]at Qo;rw[decide_eq_true Y_,<-tq]at Ui;have en:((iZ l v:Int) != (iZ l v:Int))=false:=(by simp);clear CQ h2 hr P S yu tG hl2 wy yU kM Y_ tq;generalize iZ l v=k1 at*;go_enter Tryz.func245,Tryz.ntmps245;go_wp2_with fail;refine yw.o.mono ?_;rintro e w1 ⟨rfl,rfl⟩;go_wp2_with fail;refine Oe.o.mono ?_;rintro e w1 ⟨rfl,rfl⟩;go_wp2_with fail;refine yw.o.mono ?_;rintro e w1 ⟨rfl,rfl⟩;go_wp2_with fail;refine yw.o.mono ?_;rintro e w1 ⟨rfl,rfl⟩;go_wp2_with fail;go_ret;exact .inl ⟨pT.o,rfl,r,ps,by rw[uy.o.1,uy.o.2];exact HP.o,.apa (Below.refl _ _)⟩
   .have Y_:u∉eL m:=pC.1 (by rw[<-tq];exact pC.2 kM);have pT:=aa (show gj l m v u=0 by rw[yU.o,if_pos tq]);have Z6:=aa (py (l:=l) (p:=par) (f:=fld) (d:=0) IC.o.1 kM);have HPP:=aa (show ∀ i,i<l.length->fQ (fK l v par fld 0) i=fQ l i from fun i hi=>Dz (kr _ _ _ _ _) S.up hi);have HPN:=aa (show fQ (fK l v par fld 0) l.length=path by rw[Z6.o,Nt S.up v par fld 0 hpl,tG]);have BG:=aa (show (fK l v par fld 0).length=l.length+1 by rw[Z6.o];simp);have YJ:=aa (vF P.ga hl2 v hv 0 (by omega) Mw par fld);have Fk:=aa wy;have uN:=aa hr;have X4:m.length<=4000000:=(by rw[S.len];exact Mw);rw[decide_eq_false kM]at Qo;rw[decide_eq_false Y_,<-tq]at Ui;clear CQ h2 hr P S yu tG hl2 wy yU kM Y_ tq;go_enter Tryz.func245,Tryz.ntmps245;go_wp2_with fail;refine yw.o.mono ?_;rintro e w1 ⟨rfl,rfl⟩;go_wp2_with fail;refine Oe.o.mono ?_;rintro e w1 ⟨rfl,rfl⟩;go_wp2_with fail;refine yw.o.mono ?_;rintro e w1 ⟨rfl,rfl⟩;go_wp2_with fail;refine yw.o.mono ?_;rintro e w1 ⟨rfl,rfl⟩;go_wp2_with fail;refine YJ.o.mono ?_;rintro e w1 ⟨rfl,an1,anZ,GA1,sA⟩;obtain⟨P1,st1⟩:=HP.o.meetA GA1 sA;have Cx:=aa P1;have aav:=aa st1;have q1:=P1.box.cell 1;have HMB:=aa (vF P1.gb Fk.o u hu 0 (by omega) X4 par fld);clear GA1 sA P1 st1 YJ p0 p1 a2 b2 Qo Ui;go_wp2_with fail;refine HMB.o.mono ?_;rintro e w2 ⟨rfl,an2,an0,GB2,sB⟩;obtain⟨P2,st2⟩:=Cx.o.meetB GB2 sB;have Ee:=aa P2;have aaw:=aa (aav.o.trans st2);clear GB2 sB P2 st2 HMB Cx aav q1;go_wp2_with fail;refine iB 11 (fun w'=>w'.cell? ⟨x.gP,2,none⟩=some r.vp) (by kernel_rfl) ?_;have jv:Below w2.heap.size w2 w2.drew:=⟨rfl,rfl,rfl,ah _,fun _ _=>rfl⟩;have Cy:=aa (Ee.o.below jv);have Xa:=aa (aaw.o.trans (ik.apa jv));clear Ee aaw jv;generalize w2.drew=w3 at*;have abk:ad.block<w.heap.size:=by
     obtain⟨Vp,e,h1,_⟩:=uN.o.2 hn;injection e with e;subst e;exact h1
    have WT:=aa (uN.o.ofBlock (Xa.o.block _ abk hxb K3) (show ad.block<w3.heap.size from ai abk Xa.o.size));have hS:w3.cell? ⟨x.gP,2,none⟩=some r.vp:=Cy.o.box.cell 2;obtain⟨i0,iF,hz0,hz1,hz2⟩:=info_parts MN;have anf:ps.length<=4000000:=(by rw[Cy.o.apY];exact Mw);have PU:=Cy.o.ga.hB;refine eT 0 (v:=.pointer (some ⟨x.gP,0,none⟩)) rfl (by kernel_rfl) (fun _ _ _ h=>h) hS (by rfl) (fun w' hw'=>by have h0:w'.cell? ⟨x.gP,2,none⟩=some r.vp:=hw';go_simp) ?_;try simp only[aC,ag,ak,aq]
    refine eT 1 (v:=.pointer (some ⟨x.gP,0,none⟩)) rfl (by kernel_rfl) (fun _ _ _ h=>h) hS (by rfl) (fun w' hw'=>by have h0:w'.cell? ⟨x.gP,2,none⟩=some r.vp:=hw';go_simp) ?_;try simp only[aC,ag,ak,aq]
    refine eT 2 (v:=.pointer (some ⟨x.gP,0,none⟩)) rfl (by kernel_rfl) (fun _ _ _ h=>h) hS (by rfl) (fun w' hw'=>by have h0:w'.cell? ⟨x.gP,2,none⟩=some r.vp:=hw';go_simp) ?_;try simp only[aC,ag,ak,aq]
    refine eT 3 (v:=.pointer (some ⟨x.gP,2,none⟩)) rfl (by kernel_rfl) (fun _ _ _ h=>h) hS (by rfl) (fun w' hw'=>by have h0:w'.cell? ⟨x.gP,2,none⟩=some r.vp:=hw';go_simp) ?_;try simp only[aC,ag,ak,aq]
    refine eT 4 (v:=r.vp) rfl (by kernel_rfl) (fun _ _ _ h=>h) hS (by rfl) (fun w' hw'=>by have h0:w'.cell? ⟨x.gP,2,none⟩=some r.vp:=hw';go_simp) ?_;try simp only[aC,ag,ak,aq]
    refine eT 5 (v:=.slice (some ad) n c) rfl (by kernel_rfl) (fun _ _ _ h=>h) hS (by rfl) (fun w' hw'=>by have h0:w'.cell? ⟨x.gP,2,none⟩=some r.vp:=hw';go_simp) ?_;try simp only[aC,ag,ak,aq]
    refine fh 6 (by kernel_rfl) rfl rfl (fun K hK=>?_);go_simp;refine (sf (c:=c) WT.o hn hm).mono ?_;rintro e w4 ⟨g,c1,rfl,hrow,mS,hb4⟩;have Ef:=aa (Cy.o.below hb4);have afB:=aa (Xa.o.trans (ik.apa hb4));have hS4:w4.cell? ⟨x.gP,2,none⟩=some r.vp:=Ef.o.box.cell 2;rw[jf]at*;try dsimp only
    refine hK _ _ (fun _=>hS4) ?_;clear hK K;try simp only[aC,ag,ak,aq]
    refine fh 7 (by kernel_rfl) rfl rfl (fun K hK=>?_);go_simp;refine hK _ _ (fun _=>(World.cell?_alloc_lt w4 _ _ Ef.o.box.lt).trans hS4) ?_;clear hK K;try simp only[aC,ag,ak,aq]
    refine fh 8 (by kernel_rfl) rfl rfl (fun K hK=>?_);refine fS _ (.tmp 90) (.tmp 93) _ rfl B 211 i0 _ 1 24 Tryz.underlying287 iF hz0 hz1 hz2 rfl (by omega) r.vp ps.length ps rfl (Ef.o.paths.alloc _) _ _ 1 1 [.slice (some ⟨g,0,none⟩) path.length c1] rfl (mR (heap_alloc_new w4 _) (Nat.lt_succ_self _)) (by simp[Value.oneCell']) (by simp only[maxLen];omega) (by omega) (by have:=Ef.o.ga.hB;simp;omega) ?_;intro v5 w5 fe jG j0;obtain⟨A5,c5,rfl,-⟩:=fF fe;have G5:=fG.ap9 _ _ _ (fG.of jG j0);have LB:eW w5 x.gP 289 _:=Ef.o.box.same (G5.g.block _ Ef.o.box.lt (fun e=>eU Ef.o.paths Ef.o.box (by decide) e.symm));have k5:=LB.cell 2;have z5:=LB.frozen 2;have HW:=Ef.o.way (lw':=fK l v par fld 0) G5 (by have:=fe;simpa using this) rfl hrow (aj PU mS) (fun e=>by have:=(Cy.o.ga.deep.lt g e).2;omega) (fun e=>by have:=(Cy.o.gb.deep.lt g e).2;omega) BG.o HPP.o HPN.o;have gN:=aa (And.intro HW.1 (afB.o.trans HW.2));try dsimp only
    refine hK _ _ (fun _=>k5) ?_;clear hK K;try simp only[aC,ag,ak,aq]
    refine fh 9 (by kernel_rfl) rfl rfl (fun K hK=>?_);go_simp;refine hK _ _ (fun _=>k5) ?_;clear hK K;try simp only[aC,ag,ak,aq]
    refine fh 10 (by kernel_rfl) rfl rfl (fun K hK=>?_);go_simp;refine hK _ _ (fun _=>k5) ?_;clear hK K;try simp only[aC,ag,ak,aq]
    refine fh 11 (by kernel_rfl) rfl rfl (fun K hK=>?_);go_simp;refine hK _ _ (fun h=>absurd h (by decide)) ?_;clear hK K;try simp only[aC,ag,ak,aq]
    refine g_ (by kernel_rfl) ?_ _;simp only[Calm,Exit.then];go_wp2_with fail;go_ret;exact .inl ⟨pT.o,rfl,_,_,gN.o.1,gN.o.2⟩
  .have pT:=aa (show gj l m v u=6 by rw[yU.o,if_neg tq]);have HD:=aa (yu.o 6 (by omega));have en:((iZ l v:Int) != (iZ m u:Int))=true:=(by simp;omega);have Ow:decide (v∈eL l)=true\/decide (v∈eL l)=false/\decide (u∈eL m)=true:=by
    by_cases h1:v∈eL l
    .exact .inl (by simpa using h1)
    .refine .inr ⟨by simpa using h1,?_⟩;have e1:=pC.2 h1;have:0<iZ m u:=(by omega);simpa using mN.1 this
   clear CQ h2 hr P S yu tG hl2 wy yU tq;generalize iZ l v=k1 at*;generalize iZ m u=k2 at*;rcases Ow with h1|⟨h1,h2⟩
   .rw[h1]at Qo;generalize decide (u∈eL m)=bB at*;clear h1;go_enter Tryz.func245,Tryz.ntmps245;go_wp2_with fail;refine yw.o.mono ?_;rintro e w1 ⟨rfl,rfl⟩;go_wp2_with fail;refine Oe.o.mono ?_;rintro e w1 ⟨rfl,rfl⟩;go_wp2_with fail;refine yw.o.mono ?_;rintro e w1 ⟨rfl,rfl⟩;go_wp2_with fail;refine yw.o.mono ?_;rintro e w1 ⟨rfl,rfl⟩;go_wp2_with fail;refine HD.o.mono ?_;rintro e w1 ⟨rfl,hD⟩;go_wp2_with fail;go_ret;exact .inr ⟨by rw[pT.o];decide,by rw[pT.o];exact⟨rfl,hD⟩⟩
   .rw[h1]at Qo;rw[h2]at Ui;clear h1 h2;go_enter Tryz.func245,Tryz.ntmps245;go_wp2_with fail;refine yw.o.mono ?_;rintro e w1 ⟨rfl,rfl⟩;go_wp2_with fail;refine Oe.o.mono ?_;rintro e w1 ⟨rfl,rfl⟩;go_wp2_with fail;refine yw.o.mono ?_;rintro e w1 ⟨rfl,rfl⟩;go_wp2_with fail;refine yw.o.mono ?_;rintro e w1 ⟨rfl,rfl⟩;go_wp2_with fail;refine HD.o.mono ?_;rintro e w1 ⟨rfl,hD⟩;go_wp2_with fail;go_ret;exact .inr ⟨by rw[pT.o];decide,by rw[pT.o];exact⟨rfl,hD⟩⟩
end
section
open Go.RowKit Go.Maps
attribute [local go_sem] au
theorem Dw (l:List Nd):∀ f i,(oA l f i).length<=f
 | 0,_=>by simp[oA]
 | f+1,i=>by
   unfold oA;split
   .simp
   .have:=Dw l f (l.getD i default).par.toNat;rw[ax,aF,aL];omega
theorem Dx (l:List Nd)(i:Nat):(fQ l i).length<=i+1:=Dw l _ _
theorem Dy (l:List Nd)(i:Nat):0<(fQ l i).length:=by unfold fQ oA;split <;> simp
def Pl (B:Nat)(x:PA)(kU kV:Value)(r:kI)(t0 t1 t2:Value)(l m:List Nd)(ps:List Value)(od:Option (Nat × Nat))(i:Nat)(w:World)(e:Ending)(w':World):Prop:=
 (od=none/\e= .returned (.bool false)/\na w' B x kU kV r t0 t1 t2 l m l ps/\Below w.heap.size w w')\/
  (∃ k a,od=some (k,a)/\pP B x kU kV r l m l ps k (fQ l i) a w e w')
theorem pP.after {B:Nat}{x:PA}{kU kV:Value}{r:kI}{l m lw:List Nd}{ps:List Value}{kd:Nat}{path:List Int}{at_:Nat}{w w1:World}{e:Ending}{w':World}(h:pP B x kU kV r l m lw ps kd path at_ w1 e w')(hb:Below w.heap.size w w1):
 pP B x kU kV r l m lw ps kd path at_ w e w':=by
 obtain⟨h1,h2,g,c,h3,h4,h5⟩:=h;exact⟨h1,(ik.apa hb).trans h2,g,c,h3,h4,aj hb.size h5⟩
def RdP (ys:List Nat)(n:Nat)(w:World)(e:Ending)(w':World):Prop:=
 ∃ A c,e= .returned (.slice A n c)/\eQ w' w'.heap.size 1 A n (eN ys)/\Below w.heap.size w w'
theorem Ff.rd {h:HM}{o n:Nat}{w w':World}{e:Ending}(H:Ff h o w e w')(hn:(h.fields o).length=n):RdP (h.fields o) n w e w':=by
 obtain⟨v,rfl,h1,h2⟩:=H;obtain⟨A,c,rfl,hr⟩:=fF h1;subst hn;exact⟨A,c,rfl,hr,h2⟩
theorem zo {h:HM}{ls:List Ob}(G:h.Good ls){o:Nat}(hi:h.isB o=true){k:Nat}(hk:k<(h.hd (o/2)).size):(eN (h.fields o))[k]? = some (.int .u32 (fw h o k:Nat)):=by
 obtain⟨b,hb,e1,e2,ok,e3⟩:=nh G hi;have hk2:k<b.fs.length:=by have:=ok.size;rw[e1]at hk;omega
 rw[e2,ft hk2,e3 k hk2]
theorem GS {w:World}{B:Nat}{x:PA}{p q:HP}{g h:HM}{lg lh:List Ob}{r:kI}{t0 t1 t2:Value}{l m:List Nd}{ps:List Value}(P:na w B x (.pointer (some ⟨p.g,0,none⟩)) (.pointer (some ⟨q.g,0,none⟩)) r t0 t1 t2 l m l ps)
 (HA:fO w p g)(GA:g.Good lg)(HB:fO w q h)(GB:h.Good lh)(sp:eX w)(S:Side l m)(ser:Bool)(i:Nat)(hi:i<l.length)(Mw:l.length<=4000000)(Mt:g.isB (iw l i)=true)(Ou:h.isB (iw m i)=true):
 Calls Tryz.prog 246 #[.pointer (some ⟨x.gP,0,none⟩),.int .i64 i,.bool ser] w (Pl B x (.pointer (some ⟨p.g,0,none⟩)) (.pointer (some ⟨q.g,0,none⟩)) r t0 t1 t2 l m ps (g.odM h ser (iw l i) (iw m i)) i w):=by
 have HP:=aa P;have p0:=P.box.cell 0;have p1:=P.box.cell 1;have p2:=P.box.cell 2;have a0:=P.ga.box.cell 0;have a1:=P.ga.box.cell 1;have b0:=P.gb.box.cell 0;have b1:=P.gb.box.cell 1;obtain⟨AA,cA,eA,hrA⟩:=fF P.ga.met;obtain⟨AB,cB,eB,hrB⟩:=fF P.gb.met;obtain⟨AP,cP,eP,hrP⟩:=fF P.paths;have Ir:i<m.length:=by rw[S.len];exact hi
 have X4:m.length<=4000000:=by rw[S.len];exact Mw
 obtain⟨adA,uA,rfl,abu,Us,kA⟩:=hrA.at_ hi;obtain⟨adB,uB,rfl,abv,Ut,kB⟩:=hrB.at_ Ir;rw[ft (by rw[fI];exact hi),jx]at Us;rw[ft (by rw[fI];exact Ir),jx]at Ut;injection Us with Us;injection Ut with Ut;subst Us;subst Ut;rw[eA]at a1;rw[eB]at b1;have hps:ps.length=l.length:=P.apY;obtain⟨Vq,uP,rfl,abw,hxP,kP⟩:=hrP.at_ (k:=i) (by omega);obtain⟨gw,cw,SF,zF,-,-,-⟩:=P.ways i hi;have huP:uP= .slice (some ⟨gw,0,none⟩) (fQ l i).length cw:=by
  rw[<-SF,ae,hxP];rfl
 subst huP;have HEP:=aa eP;have ZW:=aa (fun (w':World) (hb:Below w.heap.size w w')=>show w'.cell? (Vq.add i)=some (.slice (some ⟨gw,0,none⟩) (fQ l i).length cw) from (hb.cell (aW _ _ kP)).trans kP);have hpl:=Dx l i;have Zc:=Dy l i;have yu:=aa (fun (w':World) (hb:Below w.heap.size w w') (kd at_:Nat) (hk:kd<=255)=>(zn (c:=cw) (P.below hb) (show eQ w' w'.heap.size 1 (some ⟨gw,0,none⟩) (fQ l i).length (jE (fQ l i)) by
  have hr:=(zF.below hb).reads (zF.below hb).lt;rw[jf]at hr;exact hr) Zc (by omega) kd at_ hk).mono fun e w'' hd=>hd.after hb)
 have zD:iw l i<4294967296:=by
  have h1:=HM.ap5 Mt;have h2:=GA.fit.marks;have h3:=GA.fit.room;have h4:=GA.fit.hi;omega
 have acA:iw m i<4294967296:=by
  have h1:=HM.ap5 Ou;have h2:=GB.fit.marks;have h3:=GB.fit.room;have h4:=GB.fit.hi;omega
 have Td:=aa (fun (w':World) (hb:Below w.heap.size w w')=>jm (HA.below hb) GA.fit GA.laid.heads (sp.below hb) _ zD);have Od:=aa (fun (w':World) (hb:Below w.heap.size w w')=>jm (HB.below hb) GB.fit GB.laid.heads (sp.below hb) _ acA);rw[show g.api (iw l i)= .tuple #[.agg (KT (g.hd (iw l i/2))),.int .i64 0] by unfold HM.api;rw[Mt];rfl]at Td;rw[show h.api (iw m i)= .tuple #[.agg (KT (h.hd (iw m i/2))),.int .i64 0] by unfold HM.api;rw[Ou];rfl]at Od;have ZA:=aa (fun (w':World) (hb:Below w.heap.size w w') (hp:(g.hd (iw l i/2)).apb=false)=>uX (HA.below hb) GA GA.laid.heads (sp.below hb) _ zD Mt hp _ rfl rfl);have S3:=aa (fun (w':World) (hb:Below w.heap.size w w') (hp:(h.hd (iw m i/2)).apb=false) (X:Hd) (hf:X.fmt=(h.hd (iw m i/2)).fmt) (hz:X.size=(h.hd (iw m i/2)).size)=>uX (HB.below hb) GB GB.laid.heads (sp.below hb) _ acA Ou hp X hf hz);have Oc:=aa (HM.fields_len (HM.aps GA.laid.heads Mt));have jC:=aa (HM.fields_len (HM.aps GB.laid.heads Ou));have HWA:=aa (fun k (hk:k<(g.hd (iw l i/2)).size)=>zo GA Mt hk);have HWB:=aa (fun k (hk:k<(h.hd (iw m i/2)).size)=>zo GB Ou hk);have ant:(g.hd (iw l i/2)).size<=1048576:=nJ GA.fit (HM.aps GA.laid.heads Mt);clear hrA hrB hrP eA eB eP kP hxP SF zF P HA HB sp S Mt Ou;generalize hod:g.odM h ser (iw l i) (iw m i)=od at*;have Vg:=aa hod;clear hod;generalize hX:g.hd (iw l i/2)=X at*;generalize hY:h.hd (iw m i/2)=Y at*;unfold KT at Td Od;have Bn:=aa hX;have HYE:=aa hY;generalize iw l i=o at*;generalize iw m i=u at*;clear hX hY;go_enter Tryz.func246,Tryz.ntmps246;go_wp2_with fail
 go_quiet (fail)
 have ko:=aa (below_drewN (Below.refl w.heap.size w) nq);clear p0 p1 p2 a0 a1 b0 b1 kA kB;generalize w.drewN nq=w1 at*;have Cx:=aa (HP.o.below ko.o);have p0:=Cx.o.box.cell 0;have a0:=Cx.o.ga.box.cell 0;unfold ptr at Td Od ZA S3;go_wp2_with fail;refine (Td.o _ ko.o).mono ?_;rintro e w2 ⟨rfl,hb2⟩;have hb3:=(eF ko.o hb2).alloc (eF ko.o hb2).size (.cells (KT X) 75);have BX:=eW.new w2 75 (KT X);unfold KT at hb3 BX;have P3:=HP.o.below hb3;have p1:=P3.box.cell 1;have b0:=P3.gb.box.cell 0;have ig:=aa hb3;have ni:=aa BX;clear hb2 hb3 BX P3 p0 a0 Cx ko;go_wp2_with fail;clear p1 b0;generalize w2.heap.size=gX at*;generalize w2.alloc (.cells #[.int .i64 X.size,.int .i64 X.fmt,.int .i64 X.spare,.int .u32 X.cls,.int .u32 X.ser] 75)=w3 at*;refine (Od.o _ ig.o).mono ?_;rintro e w4 ⟨rfl,hb4⟩;have iW:=(eF ig.o hb4).alloc (eF ig.o hb4).size (.cells (KT Y) 75);have BY:=eW.new w4 75 (KT Y);have BX:=ni.o.below (hb4.alloc hb4.size (.cells (KT Y) 75)) ni.o.lt;unfold KT at iW BY BX;have jL:=aa iW;have OQ:=aa BX;have aeS:=aa BY;have c0:=BX.cell 0;have c1:=BX.cell 1;have c2:=BX.cell 2;have c4:=BX.cell 4;have d0:=BY.cell 0;have d1:=BY.cell 1;have d2:=BY.cell 2;have d4:=BY.cell 4;clear hb4 iW BY BX ni ig;go_upto_region 4 with fail;clear Td Od;generalize w4.heap.size=gY at*;generalize w4.alloc (.cells #[.int .i64 Y.size,.int .i64 Y.fmt,.int .i64 Y.spare,.int .u32 Y.cls,.int .u32 Y.ser] 75)=w5 at*;have YN:=aa (HP.o.below jL.o);have p2:=YN.o.box.cell 2;rw[HEP.o]at p2;have kP:=ZW.o _ jL.o;have LL:=aa (fun (hc:X.fmt≠Y.fmt\/X.size≠Y.size\/X.spare≠Y.spare)=>show od=some (3,0) by
  rw[<-Vg.o];unfold HM.odM;rw[Bn.o,HYE.o,if_pos hc])
 have Ow:X.fmt≠Y.fmt\/(X.fmt=Y.fmt/\X.size≠Y.size)\/(X.fmt=Y.fmt/\X.size=Y.size/\X.spare≠Y.spare)\/(X.fmt=Y.fmt/\X.size=Y.size/\X.spare=Y.spare):=by omega
 rcases Ow with h1|⟨h1,h2⟩|⟨h1,h2,h3⟩|⟨h1,h2,h3⟩
 .have e1:((X.fmt:Int) != (Y.fmt:Int))=true:=by simp;omega
  have HF:=aa (LL.o (.inl h1));clear h1;go_wp2_with fail;refine (yu.o _ jL.o 3 0 (by omega)).mono ?_;rintro e w6 ⟨rfl,hD⟩;go_wp2_with fail;go_ret;exact .inr ⟨3,0,HF.o,rfl,hD⟩
 .have e1:((X.fmt:Int) != (Y.fmt:Int))=false:=by simp;omega
  have e2:((X.size:Int) != (Y.size:Int))=true:=by simp;omega
  have HF:=aa (LL.o (.inr (.inl h2)));clear h1 h2;go_wp2_with fail;refine (yu.o _ jL.o 3 0 (by omega)).mono ?_;rintro e w6 ⟨rfl,hD⟩;go_wp2_with fail;go_ret;exact .inr ⟨3,0,HF.o,rfl,hD⟩
 .have e1:((X.fmt:Int) != (Y.fmt:Int))=false:=by simp;omega
  have e2:((X.size:Int) != (Y.size:Int))=false:=by simp;omega
  have e3:((X.spare:Int) != (Y.spare:Int))=true:=by simp;omega
  have HF:=aa (LL.o (.inr (.inr h3)));clear h1 h2 h3;go_wp2_with fail;refine (yu.o _ jL.o 3 0 (by omega)).mono ?_;rintro e w6 ⟨rfl,hD⟩;go_wp2_with fail;go_ret;exact .inr ⟨3,0,HF.o,rfl,hD⟩
 .have e1 :((X.fmt:Int) != (Y.fmt:Int))=false:=by simp;omega
  have e2:((X.size:Int) != (Y.size:Int))=false:=by simp;omega
  have e3:((X.spare:Int) != (Y.spare:Int))=false:=by simp;omega
  have Ve:=aa (show ¬ (X.fmt≠Y.fmt\/X.size≠Y.size\/X.spare≠Y.spare) by omega);have HQ:=aa (And.intro h1 (And.intro h2 h3));clear h1 h2 h3 LL;by_cases hs:ser=true/\X.ser≠Y.ser
  .obtain⟨rfl,hs⟩:=hs;have e4:((X.ser:Int) != (Y.ser:Int))=true:=(by simp;omega);have HF:=aa (show od=some (4,0) by rw[<-Vg.o];unfold HM.odM;rw[Bn.o,HYE.o,if_neg Ve.o,if_pos ⟨rfl,hs⟩]);clear hs;go_wp2_with fail;refine (yu.o _ jL.o 4 0 (by omega)).mono ?_;rintro e w6 ⟨rfl,hD⟩;go_wp2_with fail;go_ret;exact .inr ⟨4,0,HF.o,rfl,hD⟩
  .have Z8:=aa hs;have hs2:ser=false\/(ser=true/\((X.ser:Int) != (Y.ser:Int))=false):=by
    cases ser
    .exact .inl rfl
    .refine .inr ⟨rfl,?_⟩;have:X.ser=Y.ser:=ay fun e=>hs ⟨rfl,e⟩;simp[this]
   clear hs;go_upto_region 6 with fail
   go_cut [95] (fun v W'=>v= .bool false/\W'=w5)
   case first=>
    rcases hs2 with rfl|⟨rfl,e4⟩
    .go_wp2_with fail;go_meet;exact⟨rfl,rfl⟩
    .go_wp2_with fail;go_meet;exact⟨rfl,rfl⟩
   case rest=>
    obtain⟨rfl,rfl⟩:=hcut;clear hs2;cases hp:X.apb
    case true=>
     have U7:=aa (mH X.fmt wc);rw[show (decide (X.fmt=1) || decide (X.fmt=4))=true from hp]at U7;have HF:=aa (show od=none by rw[<-Vg.o];unfold HM.odM;rw[Bn.o,HYE.o,if_neg Ve.o,if_neg Z8.o,if_pos hp]);clear hp;go_wp2_with fail;refine U7.o.mono ?_;rintro e w6 ⟨rfl,rfl⟩;go_wp2_with fail;go_ret;exact .inl ⟨HF.o,rfl,YN.o,jL.o⟩
    case false=>
     have U7:=aa (mH X.fmt wc);rw[show (decide (X.fmt=1) || decide (X.fmt=4))=false from hp]at U7;have HF:=aa (show od=(tV X.size (fw g o) (fw h u)).map fun k=>(5,k) by rw[<-Vg.o];unfold HM.odM;rw[Bn.o,HYE.o,if_neg Ve.o,if_neg Z8.o,if_neg (by simp[hp])]);have HPY:=aa (show Y.apb=false by have:=HQ.o.1;unfold Hd.apb at hp ⊢;rw[<-this];exact hp);have HPX:=aa hp;clear hp;go_wp2_with fail;refine U7.o.mono ?_;rintro e w6 ⟨rfl,rfl⟩;clear U7;have xr:=aa (fun (w':World) (hb:Below wc.heap.size wc w')=>(ZA.o w' (eF jL.o hb) HPX.o).mono fun e w'' hc=>hc.rd Oc.o);have nD:=aa (fun (w':World) (hb:Below wc.heap.size wc w')=>(S3.o w' (eF jL.o hb) HPY.o X HQ.o.1 HQ.o.2.1).mono fun e w'' hc=>hc.rd (jC.o.trans HQ.o.2.1.symm));have HK:=aa (fun (w':World) (hb:Below wc.heap.size wc w')=>show w'.cell? ⟨x.gP,0,none⟩=some (.pointer (some ⟨x.gA,0,none⟩))/\w'.cell? ⟨x.gP,1,none⟩=some (.pointer (some ⟨x.gB,0,none⟩))/\w'.cell? ⟨x.gA,0,none⟩=some (.pointer (some ⟨p.g,0,none⟩))/\w'.cell? ⟨x.gB,0,none⟩=some (.pointer (some ⟨q.g,0,none⟩))/\w'.cell? ⟨gX,0,none⟩=some (.int .i64 X.size)/\w'.cell? ⟨gX,1,none⟩=some (.int .i64 X.fmt)/\w'.cell? ⟨gX,2,none⟩=some (.int .i64 X.spare)/\w'.cell? ⟨gX,3,none⟩=some (.int .u32 X.cls)/\w'.cell? ⟨gX,4,none⟩=some (.int .u32 X.ser) from by
      have P6:=YN.o.below hb;have B6:=OQ.o.below hb OQ.o.lt;exact⟨P6.box.cell 0,P6.box.cell 1,P6.ga.box.cell 0,P6.gb.box.cell 0,B6.cell 0,B6.cell 1,B6.cell 2,B6.cell 3,B6.cell 4⟩)
     unfold Hd.val at xr nD;clear p2 kP c0 c1 c2 c4 d0 d1 d2 d4 e1 e2 e3 ZA S3;go_upto_region 10 with fail
     go_cut [13,14] (fun v1 v2 W'=>∃ A1 k1 A2 k2,v1= .slice A1 X.size k1/\v2= .slice A2 X.size k2/\eQ W' W'.heap.size 1 A1 X.size (eN (g.fields o))/\eQ W' W'.heap.size 1 A2 X.size (eN (h.fields u))/\Below wc.heap.size wc W')
     case first=>
      have Mm:Below wc.heap.size wc wc.drew:=ib (Below.refl _ _)
      go_region_held3 (fun w'=>w'.cell? ⟨x.gP,0,none⟩=some (.pointer (some ⟨x.gA,0,none⟩))/\w'.cell? ⟨x.gP,1,none⟩=some (.pointer (some ⟨x.gB,0,none⟩))/\w'.cell? ⟨x.gA,0,none⟩=some (.pointer (some ⟨p.g,0,none⟩))/\w'.cell? ⟨x.gB,0,none⟩=some (.pointer (some ⟨q.g,0,none⟩))/\w'.cell? ⟨gX,0,none⟩=some (.int .i64 X.size)/\w'.cell? ⟨gX,1,none⟩=some (.int .i64 X.fmt)/\w'.cell? ⟨gX,2,none⟩=some (.int .i64 X.spare)/\w'.cell? ⟨gX,3,none⟩=some (.int .u32 X.cls)/\w'.cell? ⟨gX,4,none⟩=some (.int .u32 X.ser))
       (first|exact HK.o _ (by assumption)|go_keep)
       (first
         | (go_at_call 273;(with_reducible refine (xr.o _ (by assumption)).mono ?_);rintro e w1 ⟨A1,k1,rfl,UQ,hb1⟩;have yB:=eF (by assumption) hb1)
         | (go_at_call 273;(with_reducible refine (nD.o _ (by assumption)).mono ?_);rintro e w2 ⟨A2,k2,rfl,rd2,hb2⟩;have KO:=eF (by assumption) hb2))
      all_goals go_wp2_with fail
      all_goals go_meet
      all_goals first
       | exact⟨_,_,_,_,rfl,rfl,(UQ.below hb2).more hb2.size,rd2,KO⟩
       | exact⟨_,_,_,_,rfl,rfl,UQ,(rd2.below hb1).more hb1.size,yB⟩
     case rest=>
      obtain⟨A1,k1,A2,k2,rfl,rfl,UQ,rd2,jV⟩:=hcut;have Bi:=aa UQ;have uz:=aa rd2;have lQ:=aa (eF jL.o jV);clear UQ rd2 jV xr nD HK OQ aeS;go_wp2_with fail
      go_loopw [130] (fun iv wr=>∃ k:Nat,k<=X.size/\iv= .int .i64 k/\(∀ j,j<k->fw g o j=fw h u j)/\Below wc.heap.size wc wr) (fun iv _=>X.size-(intOf iv).toNat)
      case atStart=>exact⟨0,by omega,rfl,fun j hj=>by omega,Below.refl _ _⟩
      case round=>
       obtain⟨k,hk,rfl,hno,hb⟩:=hrel;have qX:=aa hno;have HB:=aa hb;clear hno hb;by_cases hlt:k<X.size
       .obtain⟨TK,u1,rfl,abr,hx1,SH⟩:=(Bi.o.below HB.o).at_ hlt;obtain⟨Xs,u2,rfl,abt,hx2,Yj⟩:=(uz.o.below HB.o).at_ hlt;rw[HWA.o k hlt]at hx1;rw[HWB.o k (by have:=HQ.o.2.1;omega)]at hx2;injection hx1 with hx1;injection hx2 with hx2;subst hx1;subst hx2;clear abr abt;have ahF:X.size<9223372036854775807:=(by omega);by_cases heq:fw g o k=fw h u k
        .have e5:((fw g o k:Int) != (fw h u k:Int))=false:=(by simp[heq]);have Sh:=aa heq;clear heq;generalize K7:fw g o k=y1 at*;generalize hv2:fw h u k=y2 at*;have HV1:=aa K7;have YR:=aa hv2;clear K7 hv2;go_wp2_with fail
         go_quiet (fail)
         go_wp2_with fail;go_roundw
         case rel=>
          refine⟨k+1,by omega,by go_num,fun j hj=>?_,below_drewN HB.o _⟩;rcases aT j k with h1|h1
          .exact qX.o j h1
          .obtain rfl:j=k:=(by omega);rw[HV1.o,YR.o,Sh.o]
         case measure=>simp[intOf];omega
        .have e5:((fw g o k:Int) != (fw h u k:Int))=true:=(by simp;omega);have OV:=aa (show od=some (5,k) by rw[HF.o,Ev hlt heq qX.o];rfl);clear heq;generalize fw g o k=y1 at*;generalize fw h u k=y2 at*;go_wp2_with fail
         go_quiet (fail)
         have U6:=aa (eF lQ.o (below_drewN HB.o nq));have HPQ:=aa (HP.o.below U6.o);clear SH Yj HB;generalize wr.drewN nq=w7 at*;have p2:=HPQ.o.box.cell 2;rw[HEP.o]at p2;have kP:=ZW.o _ U6.o;go_wp2_with fail;refine (yu.o _ U6.o 5 k (by omega)).mono ?_;rintro e w8 ⟨rfl,hD⟩;go_wp2_with fail;go_ret;exact .inr ⟨5,k,OV.o,rfl,hD⟩
       .obtain rfl:k=X.size:=(by omega);have ux:=aa (show od=none by rw[HF.o,xE.2 qX.o];rfl);have kn:=aa (eF lQ.o HB.o);have YO:=aa (HP.o.below kn.o);go_wp2_with fail;go_ret;exact .inl ⟨ux.o,rfl,YO.o,kn.o⟩
end
section
open Go.RowKit Go.Maps
attribute [local go_sem] au
section
variable {w w':World}{B:Nat}{x:PA}{kU kV:Value}{r r':kI}{t0 t1 t2:Value}{l m lw l' m':List Nd}{ps:List Value}
theorem na.xLow (P:na w B x kU kV r t0 t1 t2 l m lw ps){k:Nat}(h:x.has k):B<=k:=by
 rcases h with rfl|rfl|rfl|rfl|rfl
 .exact P.hP
 .exact P.ga.hg
 .exact P.ga.hm
 .exact P.gb.hg
 .exact P.gb.hm
theorem na.aqj (P:na w B x kU kV r t0 t1 t2 l m lw ps){k:Nat}(h:r.has k):B<=k/\k<w.heap.size:=by
 rcases h with h|h|h|h|h
 .exact P.ga.met.lt k h
 .exact P.ga.deep.lt k h
 .exact P.gb.met.lt k h
 .exact P.gb.deep.lt k h
 .exact P.paths.lt k h
theorem ik.low (P:na w B x kU kV r t0 t1 t2 l m lw ps)(s:ik x r r' w w'){k:Nat}(hk:k<B):w'.heap[k]? = w.heap[k]? :=
 s.block k (ai hk P.ga.hB) (fun h=>by have:=P.xLow h;omega) (fun h=>by have:=(P.aqj h).1;omega)
theorem na.xNe (P:na w B x kU kV r t0 t1 t2 l m lw ps){g:Nat}{t:TypeId}{cs:Array Value}(b:eW w g t cs)(h1:289≠t)(h2:227≠t):¬ x.has g:=by
 rintro (rfl|rfl|rfl|rfl|rfl)
 .exact P.box.ne_ b h1 rfl
 .exact P.ga.box.ne_ b h2 rfl
 .exact jF b P.ga.num rfl
 .exact P.gb.box.ne_ b h2 rfl
 .exact jF b P.gb.num rfl
theorem na.rNe (P:na w B x kU kV r t0 t1 t2 l m lw ps){g:Nat}{t:TypeId}{cs:Array Value}(b:eW w g t cs)(h1:54≠t)(h2:3≠t)(h3:211≠t):¬ r.has g:=by
 rintro (h|h|h|h|h)
 .exact eU P.ga.met b h1 h
 .exact eU P.ga.deep b h2 h
 .exact eU P.gb.met b h1 h
 .exact eU P.gb.deep b h2 h
 .exact eU P.paths b h3 h
theorem ik.blk (P:na w B x kU kV r t0 t1 t2 l m lw ps)(s:ik x r r' w w'){g:Nat}{t:TypeId}{cs:Array Value}(b:eW w g t cs)(h1:289≠t)(h2:227≠t)(h3:54≠t)(h4:3≠t)(h5:211≠t):
 w'.heap[g]? = w.heap[g]? :=s.block g b.lt (P.xNe b h1 h2) (P.rNe b h3 h4 h5)
theorem ik.aqK (P:na w B x kU kV r t0 t1 t2 l m lw ps)(s:ik x r r' w w'){g:Nat}{t:TypeId}{cs:Array Value}(b:eW w g t cs)(h1:289≠t)(h2:227≠t)(hn:¬ r.has g):
 w'.heap[g]? = w.heap[g]? :=s.block g b.lt (P.xNe b h1 h2) hn
theorem ik.no (s:ik x r r' w w'){g:Nat}(hg:g<w.heap.size)(hn:¬ r.has g):¬ r'.has g:=fun h=>by
 rcases s.rows g h with h|h
 .exact hn h
 .omega
theorem ik.obj (P:na w B x kU kV r t0 t1 t2 l m lw ps)(s:ik x r r' w w'){k:Nat}{o:Obj}(ho:w.heap[k]? = some o)(hc:o.isCells=false)(hA:k≠x.mA)(hB:k≠x.mB):w'.heap[k]? = some o:=by
 have hb:∀ g t cs,eW w g t cs->k≠g:=fun g t cs b e=>by
  subst e;unfold eW at b;rw[b]at ho;injection ho with ho;subst ho;cases hc
 have hr:∀ {e n xs} {v:Value},w.ownsRow B e 1 v n xs->v.ownBlock≠some k:=fun h e=>by
  obtain⟨o',l_,hc'⟩:=iM h e;rw[ho]at l_;injection l_ with l_;subst l_;rw[hc]at hc';cases hc'
 refine (s.block k (fA ho) ?_ ?_).trans ho
 .rintro (h|h|h|h|h)
  .exact hb _ _ _ P.box h
  .exact hb _ _ _ P.ga.box h
  .exact hA h
  .exact hb _ _ _ P.gb.box h
  .exact hB h
 .rintro (h|h|h|h|h)
  .exact hr P.ga.met h
  .exact hr P.ga.deep h
  .exact hr P.gb.met h
  .exact hr P.gb.deep h
  .exact hr P.paths h
theorem ik.marks (P:na w B x kU kV r t0 t1 t2 l m lw ps)(s:ik x r r' w w'){B0:Nat}{ds:List Deferred}(M:gC B0 ds w):gC B0 ds w':=
 M.same fun D _ h=>s.obj P h rfl (fun e=>by subst e;obtain⟨D',_,⟨es,clock,hb,r⟩,_⟩:=P.ga.num;rw[hb]at h;injection h with h;cases h)
  (fun e=>by subst e;obtain⟨D',_,⟨es,clock,hb,r⟩,_⟩:=P.gb.num;rw[hb]at h;injection h with h;cases h)
theorem ik.keeps (P:na w B x kU kV r t0 t1 t2 l m lw ps)(s:ik x r r' w w'){B1:Nat}(hA:x.mA<B1)(hB:x.mB<B1):KeepsFrom B1 w w':=
 ⟨s.size,fun k o hk ho hc=>s.obj P ho hc (by omega) (by omega)⟩
theorem ik.kpG (P:na w B x kU kV r t0 t1 t2 l m lw ps)(s:ik x r r' w w'){Bh Bo:Nat}{ch co:Array Value}(bh:eW w Bh 23 ch)(bo:eW w Bo 54 co)(hn:¬ r.has Bo):qT B Bh Bo w w':=
 ⟨s.os,s.tape,s.output,s.size,fun k hk=>s.low P hk,s.blk P bh (by decide) (by decide) (by decide) (by decide) (by decide),s.aqK P bo (by decide) (by decide) hn,
   fun g cs b=>b.same (s.blk P b (by decide) (by decide) (by decide) (by decide) (by decide))⟩
theorem ra.apw {B0 B1 gG mB:Nat}{hv vm vd:Value}{row:Option Nat}(G:ra w B0 gG mB hv vm vd l)(hm:mB<B1)(hg:w.grownBy w' row)(hr:∀ r,row=some r->B1<=r/\∃ o:Obj,w.heap[r]? = some o/\o.isCells=false):ra w' B0 gG mB hv vm vd l:=by
 have hc:∀ g cs t,eW w g t cs->w'.heap[g]? = w.heap[g]? :=fun g cs t b=>hg.block g b.lt (fun e=>by
  obtain⟨_,o,ho,hc⟩:=hr g e.symm;unfold eW at b;rw[b]at ho;injection ho with ho;subst ho;cases hc)
 have ho:∀ {e n xs} {v:Value},w.ownsRow B0 e 1 v n xs->∀ k,v.ownBlock=some k->w'.heap[k]? = w.heap[k]? :=fun h k hk=>hg.block k (h.lt k hk).2 (fun e=>by
  obtain⟨_,o,ho,hc⟩:=hr k e.symm;obtain⟨o',l_,hc'⟩:=iM h hk;rw[l_]at ho;injection ho with ho;subst ho;rw[hc']at hc;cases hc)
 exact⟨G.box.same (hc _ _ _ G.box),fB G.met (ho G.met),fB G.deep (ho G.deep),G.num.same (hg.block mB G.num.lt (fun e=>by have:=(hr mB e.symm).1;omega)),G.hg,G.hm,aj G.hB hg.size⟩
theorem Rz {B1 g c:Nat}{e:TypeId}{xs:List Value}{row:Option Nat}(h:Row w g e c xs)(hg:w.grownBy w' row)(hr:∀ r,row=some r->B1<=r/\∃ o:Obj,w.heap[r]? = some o/\o.isCells=false):Row w' g e c xs:=by
 obtain⟨cur,b,h2⟩:=h;exact⟨cur,ir b hg hr,h2⟩
theorem G3 {B0 B1 n:Nat}{e:TypeId}{v:Value}{xs:List Value}{row:Option Nat}(h:w.ownsRow B0 e 1 v n xs)(hg:w.grownBy w' row)(hr:∀ r,row=some r->B1<=r/\∃ o:Obj,w.heap[r]? = some o/\o.isCells=false):w'.ownsRow B0 e 1 v n xs:=
 fB h (fun k hk=>hg.block k (h.lt k hk).2 (fun e=>by
  obtain⟨_,o,ho,hc⟩:=hr k e.symm;obtain⟨o',l_,hc'⟩:=iM h hk;rw[l_]at ho;injection ho with ho;subst ho;rw[hc']at hc;cases hc))
theorem na.apw {B1:Nat}{row:Option Nat}(P:na w B x kU kV r t0 t1 t2 l m lw ps)(hA:x.mA<B1)(hB:x.mB<B1)(hg:w.grownBy w' row)(hr:∀ r,row=some r->B1<=r/\∃ o:Obj,w.heap[r]? = some o/\o.isCells=false):
 na w' B x kU kV r t0 t1 t2 l m lw ps:=
 ⟨ir P.box hg hr,P.ga.apw hA hg hr,P.gb.apw hB hg hr,G3 P.paths hg hr,P.apY,fun i hi=>by
   obtain⟨g,c,h1,h2,h3⟩:=P.ways i hi;exact⟨g,c,h1,Rz h2 hg hr,h3⟩,P.hP,P.neG,P.neM,P.neV,P.neD⟩
theorem na.beside (P:na w B x kU kV r t0 t1 t2 l m lw ps)(hz:w.heap.size<=w'.heap.size)(hk:∀ k,k<w.heap.size->(x.has k\/r.has k\/∃ cs,eW w k 3 cs)->w'.heap[k]? = w.heap[k]?):na w' B x kU kV r t0 t1 t2 l m lw ps:=by
 refine⟨P.box.same (hk _ P.box.lt (.inl (.inl rfl))),P.ga.keep hz (fun k h1 hc=>hk k h1 ?_),P.gb.keep hz (fun k h1 hc=>hk k h1 ?_),fB P.paths (fun k h=>hk k (P.paths.lt k h).2 (.inr (.inl (.inr (.inr (.inr (.inr h))))))),P.apY,fun i hi=>?_,P.hP,P.neG,P.neM,P.neV,P.neD⟩
 .rcases hc with h|h|h|h
  .exact .inl (.inr (.inl h))
  .exact .inl (.inr (.inr (.inl h)))
  .exact .inr (.inl (.inl h))
  .exact .inr (.inl (.inr (.inl h)))
 .rcases hc with h|h|h|h
  .exact .inl (.inr (.inr (.inr (.inl h))))
  .exact .inl (.inr (.inr (.inr (.inr h))))
  .exact .inr (.inl (.inr (.inr (.inl h))))
  .exact .inr (.inl (.inr (.inr (.inr (.inl h)))))
 .obtain⟨g,c,h1,h2,h3⟩:=P.ways i hi;obtain⟨cur,Ew,_⟩:=id h2;exact⟨g,c,h1,h2.same (hk g h2.lt (.inr (.inr ⟨cur,Ew⟩))),h3⟩
end
structure oW (W0:World) (x:PA) (bP:Nat) (kU kV:Value) (r:kI) (t0 t1 t2:Value) (l m:List Nd) (ps:List Value) (w:World):Prop where
 base:Below W0.heap.size W0 w
 pr:na w W0.heap.size x kU kV r t0 t1 t2 l m l ps
 box:eW w bP 286 #[.pointer (some ⟨x.gP,0,none⟩)]
section
variable {W0 w w':World}{x:PA}{bP:Nat}{kU kV:Value}{r r':kI}{t0 t1 t2 u0 u1 u2:Value}{l m l' m':List Nd}{ps Zh:List Value}
theorem oW.below (S:oW W0 x bP kU kV r t0 t1 t2 l m ps w)(hb:Below w.heap.size w w'):oW W0 x bP kU kV r t0 t1 t2 l m ps w':=
 ⟨eF S.base hb,S.pr.below hb,S.box.below hb S.box.lt⟩
theorem oW.base' (S:oW W0 x bP kU kV r t0 t1 t2 l m ps w)(s:ik x r r' w w'):Below W0.heap.size W0 w':=
 ⟨s.os.trans S.base.os,s.tape.trans S.base.tape,s.output.trans S.base.output,aj S.base.size s.size,fun k hk=>(s.low S.pr hk).trans (S.base.block k hk)⟩
theorem oW.step (S:oW W0 x bP kU kV r t0 t1 t2 l m ps w)(P:na w' W0.heap.size x kU kV r' u0 u1 u2 l' m' l' Zh)(s:ik x r r' w w'):oW W0 x bP kU kV r' u0 u1 u2 l' m' Zh w':=
 ⟨S.base' s,P,S.box.same (s.blk S.pr S.box (by decide) (by decide) (by decide) (by decide) (by decide))⟩
theorem oW.apw {B1:Nat}{row:Option Nat}(S:oW W0 x bP kU kV r t0 t1 t2 l m ps w)(hA:x.mA<B1)(hB:x.mB<B1)(h0:W0.heap.size<=B1)(hg:w.grownBy w' row)(hr:∀ r,row=some r->B1<=r/\∃ o:Obj,w.heap[r]? = some o/\o.isCells=false):
 oW W0 x bP kU kV r t0 t1 t2 l m ps w':=
 ⟨⟨hg.os.trans S.base.os,hg.tape.trans S.base.tape,hg.output.trans S.base.output,aj S.base.size hg.size,fun k hk=>(hg.block k (ai hk S.base.size) (fun e=>by have:=(hr k e.symm).1;omega)).trans (S.base.block k hk)⟩,
   S.pr.apw hA hB hg hr,ir S.box hg hr⟩
structure jp (W0:World) (r:kI) (bO:Nat) (vo:Value) (xs:List Nat) (w:World):Prop where
 bo:eW w bO 101 #[vo]
 own:w.ownsRow W0.heap.size 54 1 vo xs.length (eN xs)
 hb:W0.heap.size<=bO
 far:∀ k,vo.ownBlock=some k->¬ r.has k
theorem jp.below {bO:Nat}{vo:Value}{xs:List Nat}(O:jp W0 r bO vo xs w)(hb:Below w.heap.size w w'):jp W0 r bO vo xs w':=
 ⟨O.bo.below hb O.bo.lt,fB O.own (fun k hk=>hb.block k (O.own.lt k hk).2),O.hb,O.far⟩
theorem jp.apw {B1 bO:Nat}{vo:Value}{xs:List Nat}{row:Option Nat}(O:jp W0 r bO vo xs w)(hg:w.grownBy w' row)(hr:∀ r,row=some r->B1<=r/\∃ o:Obj,w.heap[r]? = some o/\o.isCells=false):jp W0 r bO vo xs w':=
 ⟨ir O.bo hg hr,G3 O.own hg hr,O.hb,O.far⟩
theorem jp.pstep {bO:Nat}{vo:Value}{xs:List Nat}(O:jp W0 r bO vo xs w)(P:na w W0.heap.size x kU kV r t0 t1 t2 l m l ps)(s:ik x r r' w w'):jp W0 r' bO vo xs w':=by
 refine⟨O.bo.same (s.blk P O.bo (by decide) (by decide) (by decide) (by decide) (by decide)),fB O.own (fun k hk=>s.block k (O.own.lt k hk).2 ?_ (O.far k hk)),O.hb,fun k hk=>s.no (O.own.lt k hk).2 (O.far k hk)⟩;rintro (rfl|rfl|rfl|rfl|rfl)
 .exact eU O.own P.box (by decide) hk
 .exact eU O.own P.ga.box (by decide) hk
 .exact fJ O.own P.ga.num hk
 .exact eU O.own P.gb.box (by decide) hk
 .exact fJ O.own P.gb.num hk
theorem jp.other {bO:Nat}{vo DV:Value}{xs:List Nat}(O:jp W0 r bO vo xs w)(hg:fG w w' vo DV){k:Nat}(hk:k<w.heap.size)(h1:vo.ownBlock≠some k)(h2:k≠bO)(u:Value):
 (w'.setCell ⟨bO,0,none⟩ u).heap[k]? = w.heap[k]? :=
 (Below.heap_setCell w' ⟨bO,0,none⟩ u k h2).trans (hg.g.block k hk (fun e=>h1 e.symm))
theorem jp.blk {bO:Nat}{vo DV:Value}{xs:List Nat}(O:jp W0 r bO vo xs w)(hg:fG w w' vo DV)(u:Value){g:Nat}{t:TypeId}{cs:Array Value}(b:eW w g t cs)(h1:54≠t)(h2:t≠101):
 (w'.setCell ⟨bO,0,none⟩ u).heap[g]? = w.heap[g]? :=O.other hg b.lt (eU O.own b h1) (b.ne_ O.bo h2) u
theorem jp.obj {bO:Nat}{vo DV:Value}{xs:List Nat}(O:jp W0 r bO vo xs w)(hg:fG w w' vo DV)(u:Value){k:Nat}{o:Obj}(ho:w.heap[k]? = some o)(hc:o.isCells=false):(w'.setCell ⟨bO,0,none⟩ u).heap[k]? = some o:=
 (O.other hg (fA ho) (fun e=>by
   obtain⟨o',l_,hc'⟩:=iM O.own e;rw[ho]at l_;injection l_ with l_;subst l_;rw[hc]at hc';cases hc') (fun e=>by
   subst e;have:=O.bo;unfold eW at this;rw[this]at ho;injection ho with ho;subst ho;cases hc) u).trans ho
theorem jp.grow {bO:Nat}{vo DV:Value}{xs ys:List Nat}(O:jp W0 r bO vo xs w)(S:oW W0 x bP kU kV r t0 t1 t2 l m ps w)(hown:w'.ownsRow W0.heap.size 54 1 DV ys.length (eN ys))(hg:fG w w' vo DV):
 jp W0 r bO DV ys (w'.setCell ⟨bO,0,none⟩ DV)/\oW W0 x bP kU kV r t0 t1 t2 l m ps (w'.setCell ⟨bO,0,none⟩ DV):=by
 have hsz:(w'.setCell ⟨bO,0,none⟩ DV).heap.size=w'.heap.size:=by simp[az]
 have hne:vo.ownBlock≠some bO:=eU O.own O.bo (by decide);have Um:DV.ownBlock≠some bO:=fun e=>by
  rcases hg.at_ _ e with e'|e'
  .exact hne e'
  .have:=O.bo.lt;omega
 have nM:∀ k,k<W0.heap.size->(w'.setCell ⟨bO,0,none⟩ DV).heap[k]? = w.heap[k]? :=fun k hk=>
  O.other hg (ai hk S.base.size) (fun e=>by have:=(O.own.lt k e).1;omega) (by have:=O.hb;omega) _
 refine⟨⟨(O.bo.same (hg.g.block bO O.bo.lt (fun e=>hne e.symm))).apg 0 _,fB hown (fun k hk=>Below.heap_setCell w' ⟨bO,0,none⟩ _ k (fun (e:k=bO)=>Um (by rw[<-e];exact hk))),O.hb,fun k hk=>?_⟩,
  ⟨⟨hg.g.os.trans S.base.os,hg.g.tape.trans S.base.tape,hg.g.output.trans S.base.output,by rw[hsz];exact aj S.base.size hg.g.size,fun k hk=>(nM k hk).trans (S.base.block k hk)⟩,
    S.pr.beside (by rw[hsz];exact hg.g.size) (fun k hk hc=>O.other hg hk ?_ ?_ _),S.box.same (O.blk hg _ S.box (by decide) (by decide))⟩⟩
 .rcases hg.at_ k hk with e|e
  .exact O.far k e
  .exact fun h=>by have:=(S.pr.aqj h).2;omega
 .rcases hc with h|h|⟨cs,b⟩
  .rcases h with rfl|rfl|rfl|rfl|rfl
   .exact eU O.own S.pr.box (by decide)
   .exact eU O.own S.pr.ga.box (by decide)
   .exact fJ O.own S.pr.ga.num
   .exact eU O.own S.pr.gb.box (by decide)
   .exact fJ O.own S.pr.gb.num
  .exact fun e=>O.far k e h
  .exact eU O.own b (by decide)
 .rcases hc with h|h|⟨cs,b⟩
  .rintro rfl;exact S.pr.xNe O.bo (by decide) (by decide) h
  .rintro rfl;exact S.pr.rNe O.bo (by decide) (by decide) (by decide) h
  .exact b.ne_ O.bo (by decide)
theorem jp.marks {bO:Nat}{vo DV:Value}{xs:List Nat}(O:jp W0 r bO vo xs w)(hg:fG w w' vo DV)(u:Value){B:Nat}{ds:List Deferred}(M:gC B ds w):gC B ds (w'.setCell ⟨bO,0,none⟩ u):=
 M.same fun D _ h=>O.obj hg u h rfl
theorem jp.keeps {bO:Nat}{vo DV:Value}{xs:List Nat}(O:jp W0 r bO vo xs w)(hg:fG w w' vo DV)(u:Value)(B:Nat):KeepsFrom B w (w'.setCell ⟨bO,0,none⟩ u):=
 ⟨by simp[az];exact hg.size,fun k o _ ho hc=>O.obj hg u ho hc⟩
theorem jp.kpG {bO:Nat}{vo DV:Value}{xs:List Nat}(O:jp W0 r bO vo xs w)(hW:W0.heap.size<=w.heap.size)(hg:fG w w' vo DV)(u:Value){Bh Bo:Nat}{ch co:Array Value}(bh:eW w Bh 23 ch)(bo:eW w Bo 54 co)(hn:vo.ownBlock≠some Bo):
 qT W0.heap.size Bh Bo w (w'.setCell ⟨bO,0,none⟩ u):=
 ⟨hg.g.os,hg.g.tape,hg.g.output,by simp[az];exact hg.size,fun k hk=>O.other hg (ai hk hW) (fun e=>by have:=(O.own.lt k e).1;omega) (by have:=O.hb;omega) u,
   O.blk hg u bh (by decide) (by decide),O.other hg bo.lt hn (bo.ne_ O.bo (by decide)) u,fun g cs b=>b.same (O.blk hg u b (by decide) (by decide))⟩
end
def lr (w:World)(gP:Nat)(d:Df):Prop:=
 w.cell? ⟨gP,3,none⟩=some (.int .i64 d.kind)/\(∃ A c,w.cell? ⟨gP,4,none⟩=some (.slice A d.path.length c)/\eQ w w.heap.size 1 A d.path.length (jE d.path)/\(∀ ad,A=some ad->gP<ad.block)/\d.path.length<=c)/\w.cell? ⟨gP,5,none⟩=some (.int .i64 d.at_)
end
section
open Go.RowKit
attribute [local go_sem] au
theorem uY {n k:Nat}(h:k<n):(ar n).take k++[⟨k,h⟩]=(ar n).take (k+1):=by
 rw[aQ,af (by simpa using h)];simp
theorem M5 {w:World}{p:HP}{h:HM}{Bh Bo o:Nat}(S:sZ w p h Bh Bo o)(f:h.Fit)(hh:h.apu)(ho:o<4294967296)(hi:h.isB o=true)(n:Nat)(Kp:World->World->Prop)(K:Kv Kp p h Bh Bo):
 SeqStopsK Fence.wide n Tryz.prog 192 #[.pointer (some ⟨Bh,0,none⟩),.pointer (some ⟨Bo,0,none⟩)] (fun i:Fin (h.nmN o)=>OA h o i.1) Kp (fun xs=>xs=ar (h.nmN o)) (fun pre=>pre <+: ar (h.nmN o)) (h.nmN o) w:=
 fun lp J Jx W hW hJ XC hY h0=>by
 have SW:=S.below hW;have hd:=HM.aps hh hi;have kJ:=HM.apR f (o/2);have pN:=aa (jm SW.at_ f hh SW.sp o ho);rw[show h.api o= .tuple #[.agg #[.int .i64 (h.hd (o/2)).size,.int .i64 (h.hd (o/2)).fmt,.int .i64 (h.hd (o/2)).spare,.int .u32 (h.hd (o/2)).cls,.int .u32 (h.hd (o/2)).ser],.int .i64 0] by unfold HM.api;rw[hi];rfl]at pN;have Ii:=aa (fun w' (S':sZ w' p h Bh Bo o) (k:Nat) (hk:k<(h.hd (o/2)).size) (hp:(h.hd (o/2)).apb=true)=>show Calls Tryz.prog 175 #[ptr p.g,.int .u32 o,.int .i64 k] w' (Told (.tuple #[.int .u32 (h.ao_ o (k+1):Nat),.int .i64 0]) w') from by
  have hG:=yA S'.at_ f hh S'.sp o ho (k:Int);have Qd:(h.hd (o/2)).fmt=1\/(h.hd (o/2)).fmt=4:=by unfold Hd.apb at hp;simpa using hp
  have SB:(h.hd (o/2)).len=(h.hd (o/2)).size:=by unfold Hd.len;rw[if_neg (by omega)]
  have he:h.ape o (k:Int) [1,4]=0:=by
   unfold HM.ape;rw[hi,if_neg (by decide),if_neg (by rcases Qd with e|e <;> rw[e] <;> decide),if_neg (by omega)]
  unfold HM.ap2 at hG;rw[he]at hG;exact hG)
 have HS:=aa SW;have HJ:=aa (show ∀ s A B,J s A->Below A.heap.size A B->J s B from fun s A B hs hb=>hJ s A B none hs ⟨hb.os,hb.tape,hb.output,hb.size,fun k hk _=>hb.block k hk⟩ (fun r e=>by cases e));have HY:=aa hY;have OZ:=aa h0;have HK:=aa K;have HN:=aa (show h.nmN o=if (h.hd (o/2)).apb then 1+(h.hd (o/2)).size else 1 from rfl);have HP:=aa (fun w'=>mH (h.hd (o/2)).fmt w');rw[show (decide ((h.hd (o/2)).fmt=1) || decide ((h.hd (o/2)).fmt=4))=(h.hd (o/2)).apb from rfl]at HP;have yO:=aa (show OA h o 0=#[.int .i64 (-1),.int .u32 ((h.hd (o/2)).cls:Nat)] from rfl);have HCK:=aa (fun k=>show OA h o (k+1)=#[.int .i64 (k:Int),.int .u32 (h.ao_ o (k+1):Nat)] by unfold OA;rw[show (((k+1:Nat):Int))-1=(k:Int) by omega]);have c1:=SW.aqn;have c2:=SW.aqo;refine callsIn_of_wp Tryz.func192 rfl trivial ?_ rfl;simp only[Tryz.ntmps192,bu,aF,aL,bJ,bK,bj,bk,bv,bp,aM,aU];unfold ptr at pN Ii;clear hY hJ XC h0 K S SW hd;generalize h.hd (o/2)=X at*;gi_wp2_with fail;refine⟨trivial,fun hh=>(by cases hh),(callsIn_wide.2 pN.o).mono ?_⟩;rintro e W1 ⟨rfl,hb1⟩;have hb2:=hb1.alloc hb1.size (.cells #[.int .i64 X.size,.int .i64 X.fmt,.int .i64 X.spare,.int .u32 X.cls,.int .u32 X.ser] 75);have nE:=aa (HS.o.below hb2);have WB:=aa (HJ.o _ _ _ OZ.o hb2);have BX:=aa (eW.new W1 75 #[.int .i64 X.size,.int .i64 X.fmt,.int .i64 X.spare,.int .u32 X.cls,.int .u32 X.ser]);have Xg:=aa (HY.o [] ⟨0,by rw[HN.o];split <;> omega⟩ _ WB.o (by rw[HN.o];split <;> simp <;> omega));rw[yO.o]at Xg;clear c1 c2 hb1 hb2 pN;obtain⟨fn,tmps,assign,body,hy,hR⟩:=Xg.o;gi_wp2_with fail;refine⟨fun hh=>(by cases hh),hR.mono ?_⟩;clear hy hR Xg;have Y1:0<h.nmN o:=by rw[HN.o];split <;> omega
 rintro e W5 (⟨rfl,PV,Jn⟩|⟨rfl,SG⟩)
 .have nG:=aa (nE.o.kept HK.o Jn);have Kk:=HK.o.hdr Jn _ _ BX.o;obtain⟨d0,d1,d2,d3,d4⟩:=Kk.apd;have WC:=aa (show J ((ar (h.nmN o)).take 1) W5 by rw[<-uY Y1];exact PV);clear PV Jn Kk nE WB BX OZ HS yO;gi_wp2_with fail;refine⟨trivial,fun hh=>(by cases hh),(callsIn_wide.2 (HP.o _)).mono ?_⟩;rintro e wz ⟨rfl,rfl⟩;cases hp:X.apb
  .have yQ:=aa (show ∃ xs,xs=ar (h.nmN o)/\J xs W5 from⟨_,rfl,by
    have h1:=WC.o;have h2:h.nmN o=1:=(by rw[HN.o,hp];rfl);rw[aZ (by rw[aO,h2];exact ah _)]at h1;exact h1⟩)
   clear d0 d1 d2 d3 d4;gi_wp2_with fail;refine bodyPost_ret (results_none rfl _ _ _) rfl ?_;exact⟨⟨_,rfl⟩,.inl yQ.o⟩
  .have TX:=HN.o;rw[hp]at TX;simp only[if_true]at TX;have LK:=aa TX;have uM:=aa hp;clear TX hp HN;have hsz:=kJ.size;gi_wp2_with fail;clear d0 d1 d2 d3 d4
   gi_loopw [28] (fun i wr=>∃ k:Nat,k<=X.size/\i= .int .i64 k/\sZ wr p h Bh Bo o/\J ((ar (h.nmN o)).take (k+1)) wr) (fun i wr=>X.size-(intOf i).toNat)
   case atStart=>exact⟨0,by omega,rfl,nG.o,WC.o⟩
   case round=>
    clear nG WC;obtain⟨k,hk,rfl,Sk,hjk⟩:=hrel;by_cases hlt:k<X.size
    .have HG:=aa (Ii.o _ Sk k hlt uM.o);have LO:=aa Sk;have ZU:=aa hjk;have c1:=Sk.aqn;have c2:=Sk.aqo;clear Sk hjk;gi_wp2_with fail;refine⟨trivial,fun hh=>(by cases hh),(callsIn_wide.2 HG.o).mono ?_⟩;rintro e W6 ⟨rfl,jV⟩;have lM:=aa (LO.o.below jV);have Xh:=aa (HY.o ((ar (h.nmN o)).take (k+1)) ⟨k+1,by rw[LK.o];omega⟩ W6 (HJ.o _ _ _ ZU.o jV) (by rw[LK.o,aG,aO];omega));rw[HCK.o]at Xh;clear c1 c2 jV HG ZU LO;obtain⟨fn,tmps,assign,body,hy,hR⟩:=Xh.o;gi_wp2_with fail;refine⟨fun hh=>(by cases hh),hR.mono ?_⟩;clear hy hR Xh;rintro e W7 (⟨rfl,hJ7,hk7⟩|⟨rfl,hx7⟩)
     .have mf:=aa (lM.o.kept HK.o hk7);have YC:=aa (show J ((ar (h.nmN o)).take (k+1+1)) W7 by rw[<-uY (by rw[LK.o];omega)];exact hJ7);clear hJ7 hk7 lM;gi_wp2_with fail;go_roundw
      case rel=>exact⟨k+1,by omega,by go_num,mf.o,YC.o⟩
      case measure=>simp[intOf];omega
     .clear lM;gi_wp2_with fail;refine bodyPost_ret (results_none rfl _ _ _) rfl ?_;exact⟨⟨_,rfl⟩,.inr ⟨_,⟨(ar (h.nmN o)).drop (k+1+1),by rw[uY (by rw[LK.o];omega),bg]⟩,hx7⟩⟩
    .obtain rfl:k=X.size:=(by omega);have yQ:=aa (show J (ar (h.nmN o)) wr by
      have:=hjk;rw[aZ (by rw[LK.o,aO];omega)]at this;exact this)
     clear Sk hjk hlt hk;gi_wp2_with fail
     go_end0
     exact⟨⟨_,rfl⟩,.inl ⟨_,rfl,yQ.o⟩⟩
 .clear nE WB BX OZ HS yO;gi_wp2_with fail;refine⟨trivial,?_⟩;gi_wp2_with fail;refine bodyPost_ret (results_none rfl _ _ _) rfl ?_;exact⟨⟨_,rfl⟩,.inr ⟨_,⟨(ar (h.nmN o)).drop 1,by rw[show []++[⟨0,Y1⟩]=(ar (h.nmN o)).take 1 from uY Y1,bg]⟩,SG⟩⟩
end
section
open Go.RowKit
attribute [local go_sem] au
def Cl (n:Int):Nat:=(2*(if 0<=n then 2*n else -2*n-1)+1).toNat
theorem Bd {n:Int}(h:0<=n):(Cl n:Int)=2*(2*n)+1:=by unfold Cl;rw[if_pos h];omega
theorem Bc {n:Int}(h:¬ 0<=n):(Cl n:Int)=2*(-2*n-1)+1:=by unfold Cl;rw[if_neg h];omega
def mj (L:List Nat)(o:Nat):Nat:=if o%2=1 then Cl (gF o) else 2*kt L o
theorem sS {L:List Nat}(hL:L.length<=1048576){o:Nat}(ho:o<4294967296):mj L o<4294967296:=by
 have h1:=sN o ho;have h2:=sM o ho;unfold mj;split
 .by_cases h:0<=gF o
  .have:=Bd h;omega
  .have:=Bc h;omega
 .have:=vK L o;omega
theorem wY:Eh 143 54:=⟨Tryz.underlying143,Tryz.underlying54⟩
structure td (w:World) (sg mb:Nat) (g:Nat) (L:List Nat):Prop where
 box:eW w sg 277 #[ptr g,.map (some mb)]
 map:oG 54 w mb L
theorem td.below {w w':World}{sg mb g:Nat}{L:List Nat}(S:td w sg mb g L)(hb:Below w.heap.size w w'):td w' sg mb g L:=⟨S.box.below hb S.box.lt,S.map.below hb⟩
theorem IL (o:Nat)(ho:o<4294967296)(h1:o%2≠1)(w:World):
 Calls Tryz.prog 191 #[.int .u32 o] w fun e w'=>e= .returned (.tuple #[.int .i64 0,.int .i64 3])/\w=w':=by
 have HK:=aa (nQ o ho w);have hk:((eR o:Int) != 1)=true:=by
  have:eR o≠1:=by unfold eR;split <;> (try split) <;> omega
  simp;omega
 generalize eR o=k at*;clear h1;go_enter Tryz.func191,Tryz.ntmps191;go_wp2_with fail;refine HK.o.mono ?_;rintro e w1 ⟨rfl,rfl⟩;go_wp2_with fail;go_ret2;exact⟨rfl,rfl⟩
theorem AQ {w:World}{sg mb g:Nat}{L:List Nat}(S:td w sg mb g L)(hL:L.length<=1048576)(uG:L.Nodup)(o:Nat)(ho:o<4294967296):
 Calls Tryz.prog 181 #[.pointer (some ⟨sg,0,none⟩),.int .u32 o] w (oD (fq (mj L o)) w):=by
 have HN:=aa (fun (x:Nat) (hx:x<4294967296)=>iu x hx w);have HL:=aa (sS hL ho);by_cases h1:o%2=1
 .have HV:=aa (CC o ho h1 w);have HZ:=aa (show mj L o=Cl (gF o) by unfold mj;rw[if_pos h1]);have Ov:=sN o ho;have Br:=sM o ho;clear h1 S;rw[HZ.o]at HL ⊢;generalize gF o=n at*;by_cases hn:0<=n
  .have hd:decide (n<0)=false:=(by simpa using hn);have HF:=aa (Bd hn);clear hn;go_enter Tryz.func181,Tryz.ntmps181;go_wp2_with fail;refine HV.o.mono ?_;rintro e w' ⟨rfl,rfl⟩;go_wp2_with fail;rw[show (2*(2*n%4294967296)%4294967296+1:Int)=((Cl n:Nat):Int) by have:=HF.o;omega];refine (HN.o _ HL.o).mono ?_;rintro e w2 ⟨v',rfl,h2⟩;go_wp2_with fail;go_ret;exact⟨_,rfl,h2⟩
  .have hd:decide (n<0)=true:=(by simp;omega);have HF:=aa (Bc hn);clear hn;go_enter Tryz.func181,Tryz.ntmps181;go_wp2_with fail;refine HV.o.mono ?_;rintro e w' ⟨rfl,rfl⟩;go_wp2_with fail;rw[show (2*((-2*n-1)%4294967296)%4294967296+1:Int)=((Cl n:Nat):Int) by have:=HF.o;omega];refine (HN.o _ HL.o).mono ?_;rintro e w2 ⟨v',rfl,h2⟩;go_wp2_with fail;go_ret;exact⟨_,rfl,h2⟩
 .have HV:=aa (IL o ho h1 w);have HZ:=aa (show mj L o=2*kt L o by unfold mj;rw[if_neg h1]);have c1:=S.box.cell 1;have hlk:=S.map.look uG wY ho;have wA:=vK L o;clear h1 S;rw[HZ.o]at HL ⊢;generalize kt L o=k at*;go_enter Tryz.func181,Tryz.ntmps181;go_wp2_with fail;refine HV.o.mono ?_;rintro e w' ⟨rfl,rfl⟩;go_wp2_with fail;rw[show (2*(k:Int))=((2*k:Nat):Int) by omega];refine (HN.o _ HL.o).mono ?_;rintro e w2 ⟨v',rfl,h2⟩;go_wp2_with fail;go_ret;exact⟨_,rfl,h2⟩
theorem iO.app {w wr w0 w5:World}{B:Nat}{v b v1:Value}{bs cs ds:List Nat}(h:iO B v bs cs w (.returned b) wr)(hb:Below wr.heap.size wr w0)
 (ho:w5.ownsRow B 5 1 v1 ((bs++cs).length+ds.length) (fP (bs++cs)++fP ds))(hg:w0.grownBy w5 b.ownBlock)(hat:v1.ownBlock=b.ownBlock\/v1.ownBlock=some w0.heap.size):iO B v bs (cs++ds) w (.returned v1) w5:=by
 obtain⟨b',hb',h0,h1,h2,h3,h4,h5,h6⟩:=h;injection hb' with hb';subst hb';refine⟨v1,rfl,?_,aj h1 (aj hb.size hg.size),hg.os.trans (hb.os.trans h2),hg.tape.trans (hb.tape.trans h3),hg.output.trans (hb.output.trans h4),fun k hk hne=>?_,fun k hk=>?_⟩
 .rw[<-aA,ax,AY];exact ho
 .have hk2:k<wr.heap.size:=by omega
  refine (hg.block k (ai hk2 hb.size) (fun e=>?_)).trans ((hb.block k hk2).trans (h5 k hk hne));rcases h6 k (by first|exact e|exact e.symm) with h|h
  .exact hne h
  .omega
 .rcases hat with e|e
  .exact h6 k (e ▸ hk)
  .rw[e]at hk;injection hk with hk;have:=hb.size;exact .inr (by omega)
end
end Go.Proofs.YtlkahgagmfhdaaaGreatDoor
