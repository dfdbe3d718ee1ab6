import Derived.Test.YtlkahgagmfhdaaaGreatDoorJSoAll
import Derived.Test.YtlkahgagmfhdaaaGreatDoorJRoundW
import Derived.Sort.CutIn
set_option linter.unusedVariables false
set_option linter.unusedSimpArgs false
set_option linter.unusedSectionVars false
open List renaming setIfInBounds_toArray→ae,set_cons_zero→af,set_cons_succ→ag,getElem?_eq_getElem→ai,length_cons→aq,getD_eq_getElem?_getD→ar,length_map→au,take_of_length_le→ax,take_add_one→az,take_sublist→aA,getElem?_map→aB,filter_sublist→aH,length_append→aJ,length→aM,length_take→aO,getElem_mem→aP,length_nil→aQ,append_nil→aR
open Go.Act renaming put→ah
open Nat renaming le_refl→aj,le_of_lt→aC,lt_of_lt_of_le→aI,le_trans→aK,le_of_eq→aT
open Go.Oper renaming semAt_some→ak
open Option.some renaming inj→aw
open Go.World renaming cell?_of_block→ay,setCell→aG
set_option maxRecDepth 100000
set_option maxHeartbeats 8000000
namespace Go.Proofs.YtlkahgagmfhdaaaGreatDoor
section
open Go.RowKit
attribute [local go_sem] ak
def TG (w:World)(g:Nat)(pl:List (Nat × Nat)):Prop:=g<w.heap.size/\∀ k q,pl[k]? = some q->w.cell? ⟨g,k*2,none⟩=some (.int .u32 (q.1:Int))/\w.cell? ⟨g,k*2+1,none⟩=some (.int .u32 (q.2:Int))
theorem TG.same {w w':World}{g:Nat}{pl:List (Nat × Nat)}(h:TG w g pl)(hz:w.heap.size<=w'.heap.size)(he:w'.heap[g]? = w.heap[g]?):TG w' g pl:=
 ⟨aI h.1 hz,fun k q hk=>⟨(ay he).trans (h.2 k q hk).1,(ay he).trans (h.2 k q hk).2⟩⟩
theorem UM {w:World}{B n:Nat}{v:Value}{pl:List (Nat × Nat)}(O:w.ownsRow B 176 2 v n (SI pl)):
 ∃ A g c,v= .slice A n c/\B<=g/\(0<n->A=some ⟨g,0,none⟩/\TG w g pl):=by
 rcases O.2 with ⟨h1,h2⟩|⟨g,cap,cur,h1,h2,h3,h4,h5,h6,h7⟩
 .subst h2;exact⟨none,B,0,h1,aj _,fun h=>absurd h (Nat.lt_irrefl _)⟩
 .refine⟨_,g,cap,h1,h2,fun _=>⟨rfl,(Array.getElem?_eq_some_iff.1 h3).1,fun k q hk=>?_⟩⟩;have hb:eW w g 176 cur:=h3;obtain⟨g1,g2⟩:=Lc pl k 0 q hk;rw[<-h7,List.getElem?_take]at g1 g2;have hc:∀ i:Nat,cur[i]? = cur.toList[i]? :=fun i=>by simp
  constructor
  .refine (hb.cell _).trans ?_;rw[hc];split at g1
   .exact g1
   .cases g1
  .refine (hb.cell _).trans ?_;rw[hc];split at g2
   .exact g2
   .cases g2
def Iy (pl:List (Nat × Nat)):Nat:=(pl.filter (fun p=>decide (p.1≠p.2))).length
theorem FN {w:World}{p:HP}{h:HM}{l:List Ob}(H:fO w p h)(G:h.Good l)(hs:eX w)(hsp:∀ k,w.heap.size<=k->k≠0/\k≠0):
 Calls Tryz.prog 28 #[ptr p.g] w (LR p (jP h l) (PK h l) w):=by
 have HH:=aa (fun (w':World) (hb:Below w.heap.size w w')=>H.below hb);have HS:=aa (fun (w':World) (hb:Below w.heap.size w w')=>hs.below hb);have HG:=aa G;have yX:=aa hsp;have Ov:=G.fit.lo;have hz:((h.size:Int) == 0)=false:=by simp;omega
 have hb1:Below w.heap.size w (w.alloc (.cells #[.int .i64 0,.int .i64 0,.int .i64 0,.int .i64 0,.int .i64 0] 62)):=(Below.refl _ _).alloc (aj _) _;have Bz:=aa hb1;have j_:=aa (eW.new w 62 #[.int .i64 0,.int .i64 0,.int .i64 0,.int .i64 0,.int .i64 0]);have BM:=aa (Hq (HH.o _ hb1) G.fit);clear H G hs hsp hb1;unfold ptr at BM ⊢;refine (callsIn_wide (n:=6)).1 ?_;refine callsIn_of_wp_marks Tryz.func28 rfl trivial ?_ rfl;simp only[Tryz.ntmps28,List.size_toArray,aq,aQ,Nat.reduceAdd,Nat.reduceSub,Array.replicate_succ,Array.replicate_zero,List.push_toArray,List.append_toArray,List.nil_append,List.cons_append]
 gi_upto_region 1 with fail
 have hg1:w.heap.size<(w.alloc (.cells #[.int .i64 0,.int .i64 0,.int .i64 0,.int .i64 0,.int .i64 0] 62)).heap.size:=by simp
 generalize w.alloc (.cells #[.int .i64 0,.int .i64 0,.int .i64 0,.int .i64 0,.int .i64 0] 62)=W1 at*;gi_wp2_with fail;refine⟨trivial,(callsIn_wide.2 BM.o).mono ?_⟩;rintro e w1 ⟨rfl,rfl⟩;clear BM;have SC:=@run_makeMap Tryz.prog;gi_wp2_with fail;have M0:=M2 W1 (.pointer (some ⟨p.g,0,none⟩))
 have hb3:Below W1.heap.size W1 (((W1.alloc (.map #[] 0)).alloc (.cells #[.int .u32 0] 32)).alloc (.cells #[.pointer (some ⟨p.g,0,none⟩),.map (some W1.heap.size),.slice (some ⟨W1.heap.size+1,0,none⟩) 1 1,.int .i64 0,.int .i64 0,.int .i64 0,.int .i64 0,.int .i64 0] 172)):=
  (((Below.refl _ _).alloc (aj _) _).alloc (by simp) _).alloc (by simp;omega) _
 have yv:=aa (eF Bz.o hb3);have BN:=aa (j_.o.below hb3 j_.o.lt);generalize ((W1.alloc (.map #[] 0)).alloc (.cells #[.int .u32 0] 32)).alloc (.cells #[.pointer (some ⟨p.g,0,none⟩),.map (some W1.heap.size),.slice (some ⟨W1.heap.size+1,0,none⟩) 1 1,.int .i64 0,.int .i64 0,.int .i64 0,.int .i64 0,.int .i64 0] 172)=W3 at*;have tO:=aa (Rj (HH.o _ yv.o) HG.o (HS.o _ yv.o));have Cw:=aa (show w.heap.size<W1.heap.size from hg1);clear Bz j_ hg1 hb3 SC;rw[show W1.heap.size+2=W1.heap.size+1+1 from rfl]at M0;have am5:W1.heap.size≠W1.heap.size+1+1:=by omega
 have VL:∀ k,(Value.slice (some ⟨W1.heap.size+1,0,none⟩) 1 1).ownBlock=some k->W1.heap.size<=k:=fun k hk=>by
  simp only[Value.ownBlock]at hk;injection hk with hk;omega
 have hown1:∀ k,(Value.slice (some ⟨W1.heap.size+1,0,none⟩) 1 1).ownBlock=some k->k<W3.heap.size:=fun k hk=>(M0.own.lt k hk).2;generalize (Value.slice (some ⟨W1.heap.size+1,0,none⟩) 1 1)=v0 at*;unfold ptr at tO;generalize ahk:W1.heap.size+1+1=mg at*;have YQ:=aa (show ∀ k,v0.ownBlock=some k->W1.heap.size<=k/\k<W3.heap.size from fun k hk=>⟨VL k hk,hown1 k hk⟩);clear VL hown1;have ig:=aa (show W1.heap.size<=W3.heap.size by have:=M0.map.lt;omega);clear ahk;generalize W1.heap.size=mb at*;refine⟨trivial,(callsIn_wide.2 tO.o).mono ?_⟩;rintro e W4 ⟨vp,rfl,hown,hb4⟩;obtain⟨Ap,gp,cp,rfl,hgp,hA⟩:=UM hown;have HA:=aa hA;have HM4:=aa (M0.below hb4);have HF4:=aa (eF yv.o hb4);have HZ4:=aa (BN.o.below hb4 BN.o.lt);have BC:=aa (show W3.heap.size<=gp/\W3.heap.size<=W4.heap.size/\mg<W3.heap.size/\mb<W3.heap.size from⟨hgp,hb4.size,M0.box.lt,M0.map.lt⟩);have yz:=aa (show ((eV h l).map (·.1)).Nodup by rw[jA,<-jW];exact rE h l);have afs:=aa (show ∀ (k:Nat) (q:Nat × Nat),(eV h l)[k]? = some q->q.1<4294967296/\q.2<4294967296 from fun k q hk=>by
  have hm:=List.mem_of_getElem? hk;have h1:q.1∈gV h l:=by rw[<-jA];exact List.mem_map.2 ⟨q,hm,rfl⟩
  refine⟨qi HG.o (wm HG.o HG.o.sound.roots _ ((sD HG.o).1 h1)),?_⟩;rw[<-zt yz.o hk];exact KM HG.o _)
 have HPN:=aa (show (eV h l).length<=1048576 by
  have h1:=congrArg aM (jA h l);rw[au]at h1;have h2:=(aH (l:=eZ l) (p:=fun o=>decide (o∈gl (kD (jq h) h.roots)))).length_le;have h3:=ki HG.o;unfold gV at h1;omega)
 have hpn:=HPN.o;have HMV:=aa (show QY h l=Iy (eV h l) from rfl);have YH:=aa (show (gV h l).length=(eV h l).length by rw[<-jA,au]);clear hown hA M0 hb4 yv BN tO hgp;gi_wp2_with fail
 gi_loopw [27] (fun iv wr=>∃ k:Nat,iv= .int .i64 k/\k<=(eV h l).length/\jM wr mb mg mb (.pointer (some ⟨p.g,0,none⟩)) v0 [0] ((eV h l).take k) 0 0 0 (Iy ((eV h l).take k)) 0/\Cn mg mb W4 wr) (fun iv _=>(eV h l).length-(intOf iv).toNat)
 case atStart=>exact⟨0,rfl,by omega,HM4.o,Cn.refl _ _ _⟩
 case round=>
  clear HM4;obtain⟨k,rfl,hk,hm,hf⟩:=hrel;have HM:=aa hm;have HF:=aa hf;clear hm hf;by_cases hlt:k<(eV h l).length
  .obtain⟨rfl,Zb⟩:=HA.o (by omega);have hq:=ai hlt;have HQ:=aa (Zb.same HF.o.size (HF.o.same gp Zb.1 (by have:=BC.o;omega) (by have:=BC.o;omega)));obtain⟨hc0,hc1⟩:=HQ.o.2 k _ hq;obtain⟨hq1,hq2⟩:=afs.o k _ hq;have K6:(eV h l).take (k+1)=(eV h l).take k++[(eV h l)[k]]:=(by rw[az,hq];rfl);have oV:=aa K6;have HNI:=aa (show ((eV h l)[k]).1∉((eV h l).take k).map (·.1) from fun hx=>by
    have h1:(((eV h l).take (k+1)).map (·.1)).Nodup:=(aA (k+1) _ |>.map _).nodup yz.o;rw[K6,List.map_append,List.nodup_append]at h1;exact h1.2.2 _ hx _ (by simp) rfl)
   clear Zb K6 hq;generalize (eV h l)[k]=q at*;obtain⟨x,y⟩:=q;simp only at hc0 hc1 hq1 hq2;gi_wp2_with fail;have iW:Below wr.heap.size wr (wr.alloc (.cells #[.int .u32 (x:Int),.int .u32 (y:Int)] 176)):=(Below.refl _ _).alloc (aj _) _;have Z5:=aa (HM.o.below iW);have HX5:=aa (eW.new wr 176 #[.int .u32 (x:Int),.int .u32 (y:Int)]);have mX:=aa (HF.o.trans (Cn.apa iW));have HG5:=aa (show mg<wr.heap.size/\mb<wr.heap.size from⟨HM.o.box.lt,HM.o.map.lt⟩);clear iW HM HF hc0 hc1 HQ;generalize wr.alloc (.cells #[.int .u32 (x:Int),.int .u32 (y:Int)] 176)=W5 at*;generalize wr.heap.size=b6 at*;refine mJ 8 (fun w'=>w'.cell? ⟨mg,1,none⟩=some (.map (some mb))/\w'.cell? ⟨b6,0,none⟩=some (.int .u32 (x:Int))/\w'.cell? ⟨b6,1,none⟩=some (.int .u32 (y:Int))) (by kernel_rfl) (by kernel_rfl) ?_;have ID:=aa Z5.o.drew;have HXq:=aa (show eW W5.drew b6 176 #[.int .u32 (x:Int),.int .u32 (y:Int)] from HX5.o);have Tb:=aa (mX.o.trans (Cn.apa (⟨rfl,rfl,rfl,aj _,fun _ _=>rfl⟩ :Below W5.heap.size W5 W5.drew)));clear Z5 HX5 mX;generalize W5.drew=Wq at*;obtain⟨W9,CX,hM9,yC⟩:=UC (q:=(x,y)) ID.o HNI.o hq1 hq2 (by rw[aO];omega);simp only at CX;have Ko:=aa hM9;have abn:b6≠mb:=fun e=>by have:=HG5.o;omega
   have HX9:=aa (HXq.o.same (yC.block b6 HXq.o.lt (fun e=>abn (by first|exact aw e|exact (aw e).symm))));have Wt:=aa (Tb.o.trans (Cn.grown yC));have hS:Wq.cell? ⟨mg,1,none⟩=some (.map (some mb))/\Wq.cell? ⟨b6,0,none⟩=some (.int .u32 (x:Int))/\Wq.cell? ⟨b6,1,none⟩=some (.int .u32 (y:Int)):=⟨ID.o.box.cell 1,HXq.o.cell 0,HXq.o.cell 1⟩;clear hM9 yC ID HXq Tb;refine eT 0 (v:=(.pointer (some ⟨mg,0,none⟩))) rfl (by kernel_rfl) (fun _ _ _ h=>h) hS (by rfl) (fun w' hw'=>by obtain⟨h0,h1,h2⟩:=hw';go_simp) ?_;try simp only[ah,ae,af,ag]
   refine eT 1 (v:=(.pointer (some ⟨mg,0,none⟩))) rfl (by kernel_rfl) (fun _ _ _ h=>h) hS (by rfl) (fun w' hw'=>by obtain⟨h0,h1,h2⟩:=hw';go_simp) ?_;try simp only[ah,ae,af,ag]
   refine eT 2 (v:=(.pointer (some ⟨mg,1,none⟩))) rfl (by kernel_rfl) (fun _ _ _ h=>h) hS (by rfl) (fun w' hw'=>by obtain⟨h0,h1,h2⟩:=hw';go_simp) ?_;try simp only[ah,ae,af,ag]
   refine eT 3 (v:=(.map (some mb))) rfl (by kernel_rfl) (fun _ _ _ h=>h) hS (by rfl) (fun w' hw'=>by obtain⟨h0,h1,h2⟩:=hw';go_simp) ?_;try simp only[ah,ae,af,ag]
   refine eT 4 (v:=(.pointer (some ⟨b6,0,none⟩))) rfl (by kernel_rfl) (fun _ _ _ h=>h) hS (by rfl) (fun w' hw'=>by obtain⟨h0,h1,h2⟩:=hw';go_simp) ?_;try simp only[ah,ae,af,ag]
   refine eT 5 (v:=(.int .u32 (x:Int))) rfl (by kernel_rfl) (fun _ _ _ h=>h) hS (by rfl) (fun w' hw'=>by obtain⟨h0,h1,h2⟩:=hw';go_simp) ?_;try simp only[ah,ae,af,ag]
   refine eT 6 (v:=(.pointer (some ⟨b6,1,none⟩))) rfl (by kernel_rfl) (fun _ _ _ h=>h) hS (by rfl) (fun w' hw'=>by obtain⟨h0,h1,h2⟩:=hw';go_simp) ?_;try simp only[ah,ae,af,ag]
   refine eT 7 (v:=(.int .u32 (y:Int))) rfl (by kernel_rfl) (fun _ _ _ h=>h) hS (by rfl) (fun w' hw'=>by obtain⟨h0,h1,h2⟩:=hw';go_simp) ?_;try simp only[ah,ae,af,ag]
   refine fh 8 (by kernel_rfl) rfl rfl (fun K hK=>?_);go_simp;refine hK _ _ (fun h=>absurd h (by decide)) ?_;clear hK K;try simp only[ah,ae,af,ag]
   refine g_ (by kernel_rfl) ?_ _;simp only[Calm,Exit.then];clear hS CX;have x0:=HX9.o.cell 0;have x1:=HX9.o.cell 1;have am6:Iy ((eV h l).take k)<=1048576:=by
    have h1:=List.length_filter_le (fun p:Nat × Nat=>decide (p.1≠p.2)) ((eV h l).take k);rw[aO]at h1;unfold Iy;omega
   have Kq:=aa (show Iy ((eV h l).take (k+1))=Iy ((eV h l).take k)+(if x=y then 0 else 1) by
    rw[oV.o];unfold Iy;rw[List.filter_append,aJ];congr 1;by_cases e:x=y
    .simp[e]
    .simp[e])
   have hm6:=Ko.o.box.cell 6;have hz6:=Ko.o.box.frozen 6;rw[<-oV.o]at Ko;clear HX9 abn HNI oV;by_cases QE:x=y
   .have hne:((x:Int) != (y:Int))=false:=(by simp[QE]);have HE:=aa (show Iy ((eV h l).take (k+1))=Iy ((eV h l).take k) by rw[Kq.o,if_pos QE];rfl);clear QE Kq hm6 hz6;rw[<-HE.o]at Ko;gi_wp2_with fail;go_roundw
    case rel=>exact⟨k+1,by go_num,by omega,Ko.o,Wt.o⟩
    case measure=>simp[intOf];omega
   .have hne:((x:Int) != (y:Int))=true:=(by simp;omega);have HE:=aa (show Iy ((eV h l).take (k+1))=Iy ((eV h l).take k)+1 by rw[Kq.o,if_neg QE]);clear QE Kq;generalize Iy ((eV h l).take k)=T at*;have Og:=aa (De (w':=W9.setCell ⟨mg,6,none⟩ (.int .i64 ((T:Int)+1))) (u0:=0) (u1:=0) (u2:=0) (u3:=T+1) (u4:=0) Ko.o (Ko.o.box.apg 6 _) (fun q hq=>Below.heap_setCell W9 ⟨mg,6,none⟩ _ q hq));have Va:=aa (Wt.o.trans (Cn.setA (b:=mb) W9 ⟨mg,6,none⟩ (.int .i64 ((T:Int)+1))));rw[<-HE.o]at Og;clear Ko Wt;gi_wp2_with fail;go_roundw
    case rel=>exact⟨k+1,by go_num,by omega,Og.o,Va.o⟩
    case measure=>simp[intOf];omega
  .obtain rfl:k=(eV h l).length:=(by omega);have hE:=HM.o;rw[List.take_length]at hE;have uy:=aa hE;clear hE HM;have kT:Below wr.heap.size wr (wr.alloc (.cells #[.int .i64 0] 3)):=(Below.refl _ _).alloc (aj _) _;have Cv:=aa (uy.o.below kT);have ma:=aa (eW.new wr 3 #[.int .i64 0]);have E7:=aa (show mg<wr.heap.size/\mb<wr.heap.size/\W4.heap.size<=wr.heap.size from⟨uy.o.box.lt,uy.o.map.lt,HF.o.size⟩);have OU:=aa (show Below w.heap.size w (wr.alloc (.cells #[.int .i64 0] 3)) from eF (HF4.o.trans (HF.o.below (by have:=BC.o;have:=Cw.o;have:=uy.o.hg;omega) (by have:=Cw.o;omega) HF4.o.size)) kT);have HZ7:=aa ((HZ4.o.same (HF.o.same _ HZ4.o.lt (by have:=uy.o.hg;have:=Cw.o;omega) (by have:=Cw.o;omega))).below kT (HZ4.o.same (HF.o.same _ HZ4.o.lt (by have:=uy.o.hg;have:=Cw.o;omega) (by have:=Cw.o;omega))).lt);have SS:=aa (show 0<(eV h l).length->Ap=some ⟨gp,0,none⟩/\TG (wr.alloc (.cells #[.int .i64 0] 3)) gp (eV h l) from fun hn=>by
    obtain⟨e,ha⟩:=HA.o hn;have h1:=ha.same HF.o.size (HF.o.same gp ha.1 (by have:=BC.o;omega) (by have:=BC.o;omega));exact⟨e,h1.same kT.size (kT.block _ h1.1)⟩)
   have HGA:=aa (show gp<W4.heap.size\/(eV h l).length=0 from by
    by_cases h0:0<(eV h l).length
    .exact .inl (HA.o h0).2.1
    .exact .inr (by omega))
   clear kT HA HF4 HZ4 uy HF
   gi_upto_region 13 with fail
   generalize Ga:wr.heap.size=bA at*;generalize wr.alloc (.cells #[.int .i64 0] 3)=W7 at*;clear Ga;gi_wp2_with fail;refine⟨trivial,(callsIn_wide.2 (uT p.g W7)).mono ?_⟩;rintro e W8 ⟨rfl,rfl⟩;have l9:Below W7.heap.size W7 (W7.alloc (.cells #[ptr p.g] 23)):=(Below.refl _ _).alloc (aj _) _;have HBH:=aa (eW.new W7 23 #[ptr p.g]);have yx:=aa (Cv.o.below l9);have LD:=aa (ma.o.below l9 ma.o.lt);have Fi:=aa (eF OU.o l9);have E_:=aa (HZ7.o.below l9 HZ7.o.lt);have HA8:=aa (show 0<(eV h l).length->Ap=some ⟨gp,0,none⟩/\TG (W7.alloc (.cells #[ptr p.g] 23)) gp (eV h l) from fun hn=>⟨(SS.o hn).1,(SS.o hn).2.same l9.size (l9.block _ (SS.o hn).2.1)⟩);have YA:=aa (show bA<W7.heap.size from ma.o.lt);have HH8:=aa (HH.o _ Fi.o);have mG:=aa (HS.o _ Fi.o);have acQ:0<bA:=by
    have:=World.block_lt_of_cell? _ _ ((HS.o w (Below.refl _ _)) 0 (by omega));simp only at this;have:=E7.o;have:=Cw.o;omega
   have WR:=aa (show ∀ j,p.has j->j<w.heap.size from fun j hj=>(HH.o w (Below.refl _ _)).lt hj);have h80:W7.heap.size<(W7.alloc (.cells #[ptr p.g] 23)).heap.size:=(by simp);clear Cv ma OU HZ7 SS l9;unfold ptr at HBH;gi_wp2_with fail;unfold ptr at*;generalize W7.alloc (.cells #[.pointer (some ⟨p.g,0,none⟩)] 23)=W0 at*;generalize W7.heap.size=bH at*
   refine wpIn_rangeFunc_ownH (F:=Fence.wide) rfl (by omega) (gf:=129) (lb:=#[.pointer (some ⟨bH,0,none⟩)]) rfl trivial (enters_of Tryz.func129 (by kernel_rfl) rfl)
    (se HH8.o HG.o mG.o 5 bH bA (HBH.o.cell 0) acQ) qJ.trans (fun W l o o' _ h1 h2 _=>qJ.book W l o o' h1 h2) (Below.refl _ _) (fun _=>rfl)
    (fun pre W=>eW W bA 3 #[.int .i64 (pre.length:Nat)]/\(∀ k,k<W0.heap.size->k≠bA->W.heap[k]? = W0.heap[k]?)/\Below w.heap.size w W/\W0.heap.size<=W.heap.size)
    (fun c pre W=>False)
    (fun pre A B row hs hg hr=>⟨FC hs.1 hg hr,fun k h1 h2=>(hg.block k (by have:=hs.2.2.2;omega) (fun e=>by have:=(hr k e.symm).1;omega)).trans (hs.2.1 k h1 h2),hs.2.2.1.grown hg hs.2.2.1.size (fun k e=>by have h1:=(hr k e).1;have h2:=Fi.o.size;omega),aK hs.2.2.2 hg.size⟩)
    (fun c pre A B row hs hg hr=>hs.elim)
    ⟨LD.o,fun _ _ _=>rfl,Fi.o,aj _⟩
    (fun x a' W=>a'={ tmps:=#[.pointer (some ⟨p.g,0,none⟩),undef,.pointer (some ⟨w.heap.size,0,none⟩),.pointer (some ⟨mg,0,none⟩),.slice Ap (eV h l).length cp,undef,u6,.pointer (some ⟨bA,0,none⟩),undef,undef,undef,undef,undef,undef,.pointer (some ⟨p.g,0,none⟩),.int .i64 (h.size:Int),.bool false,undef,.pointer (some ⟨p.g,0,none⟩),.map (some mb),v0,.agg #[.pointer (some ⟨p.g,0,none⟩),.map (some mb),v0,.int .i64 0,.int .i64 0,.int .i64 0,.int .i64 0,.int .i64 0],.pointer (some ⟨mg,0,none⟩),.pointer (some ⟨p.g,0,none⟩),.slice Ap (eV h l).length cp,.slice Ap (eV h l).length cp,.int .i64 ((eV h l).length:Int),.int .i64 ((eV h l).length:Int),.bool false,u29,u30,u31,u32,u33,u34,u35,u36,u37,u38,u39,u40,u41,u42,u43,u44,u45,u46,u47,u48,u49,u50,u51,u52,u53,.pointer (some ⟨p.g,0,none⟩),.func (.func 129) #[] #[.pointer (some ⟨bH,0,none⟩)],.int .u32 ((2*eG (l.take x.1):Nat):Int),(l[x.1]'x.2).x.val,undef,undef,undef,undef,undef,undef,undef,undef,undef,undef,undef,undef,undef,undef,undef,undef,undef,undef,undef,undef,undef,undef,undef,undef,undef,undef,undef,undef,undef,undef,undef,undef,undef,undef,undef,undef,undef,undef,undef,undef,undef,undef,undef,undef,undef,undef,undef,undef,undef,undef,undef,undef,undef,undef,undef,undef,undef,undef,undef,undef,undef,undef,undef,undef,undef,undef,undef,undef,undef,undef,undef,undef,undef,undef,undef,undef,undef],defers:=[] })
    (fun x a' _ X Y row hs hg hr=>hs)
    ?assign ?body ?done ?stop
   case assign=>
    rintro lp pre x W K hI hK;rw[show Ek l x=#[.int .u32 ((2*eG (l.take x.1):Nat):Int),(l[x.1]'x.2).x.val] from rfl];have Vb:=aa hI;have HK:=aa hK;clear hK hI;generalize (l[x.1]'x.2).x.val=X at*;generalize 2*eG (l.take x.1)=o at*;gi_wp2_with fail;exact HK.o _ _ ((KeepsOthers.refl _).from _) (qJ.refl _ _ _) Vb.o rfl
   case body=>
    rintro lp pre x a' W hl Cb ⟨B1,K1,F1,Z1⟩ rfl Gl;have hpl:pre.length<=1048576:=(by have h1:=ki HG.o;rw[fZ]at h1;omega);have hwi:IntKind.i64.wrap ((pre.length:Int)+1)=(pre.length:Int)+1:=IntWalk.i64_in _ (by omega);have y1:=B1.cell 0;have f1:=B1.frozen 0;have abp:bA<W0.heap.size:=LD.o.lt;have hne:∀ k,k≠bA->(W.setCell ⟨bA,0,none⟩ (.int .i64 ((pre.length:Int)+1))).heap[k]? = W.heap[k]? :=fun k h=>Below.heap_setCell W ⟨bA,0,none⟩ _ k h;have hsz:(W.setCell ⟨bA,0,none⟩ (.int .i64 ((pre.length:Int)+1))).heap.size=W.heap.size:=by simp[aG]
    have ux:=aa (show KeepsFrom W0.heap.size W (W.setCell ⟨bA,0,none⟩ (.int .i64 ((pre.length:Int)+1)))/\qJ bA W0.heap.size W (W.setCell ⟨bA,0,none⟩ (.int .i64 ((pre.length:Int)+1)))/\
     eW (W.setCell ⟨bA,0,none⟩ (.int .i64 ((pre.length:Int)+1))) bA 3 #[.int .i64 ((pre++[x]).length:Nat)]/\
     (∀ k,k<W0.heap.size->k≠bA->(W.setCell ⟨bA,0,none⟩ (.int .i64 ((pre.length:Int)+1))).heap[k]? = W0.heap[k]?)/\Below w.heap.size w (W.setCell ⟨bA,0,none⟩ (.int .i64 ((pre.length:Int)+1)))/\
     W0.heap.size<=(W.setCell ⟨bA,0,none⟩ (.int .i64 ((pre.length:Int)+1))).heap.size from by
     refine⟨⟨aT hsz.symm,fun k o' hk l_ hc=>(hne k (by omega)).trans l_⟩,(qJ.refl bA W0.heap.size W).setCell (aj _) abp _,?_,fun k h1 h2=>(hne k h2).trans (K1 k h1 h2),F1.setCell (p:=⟨bA,0,none⟩) (by have:=E7.o;have:=Cw.o;simp only;omega) _,by rw[hsz];exact Z1⟩;rw[show (((pre++[x]).length:Nat):Int)=(pre.length:Int)+1 by simp];exact B1.apg 0 _)
    clear hne hsz B1 K1 F1;apply wpIn_block;gi_wp2_with fail;exact ux.o
   case done=>
    rintro D xs W hD rfl ⟨B1,K1,F1,Z1⟩ hK;rw[List.length_finRange]at B1
    gi_upto_region 15 with fail
    have Tg:=aa (show (eV h l).length<=l.length by
     have h1:=congrArg aM (jA h l);rw[au]at h1;have h2:=(aH (l:=eZ l) (p:=fun o=>decide (o∈gl (kD (jq h) h.roots)))).length_le;rw[fZ]at h2;unfold gV at h1;omega)
    have yR:=aa (show l.length<=1048576 by have h1:=ki HG.o;rw[fZ]at h1;exact h1);have agC:mg<bA/\mb<bA:=⟨E7.o.1,E7.o.2.1⟩;have abp:bA<W0.heap.size:=LD.o.lt;have HM1:=aa (QX yx.o (K1 mg yx.o.box.lt (by omega)) (K1 mb yx.o.map.lt (by omega)) (fun k hk=>K1 k (yx.o.own.lt k hk).2 (by have:=YQ.o k hk;have:=BC.o;have:=E7.o;omega)));have ko:=aa B1;have Bz:=aa F1;have j_:=aa (E_.o.same (K1 _ E_.o.lt (by have:=Cw.o;omega)));have U5:=aa (show 0<(eV h l).length->Ap=some ⟨gp,0,none⟩/\TG W gp (eV h l) from fun hn=>⟨(HA8.o hn).1,(HA8.o hn).2.same Z1 (K1 gp (HA8.o hn).2.1 (by have:=E7.o;have:=HGA.o;omega))⟩);have HK:=aa hK;have hcv:((l.length-(eV h l).length:Nat):Int)=(l.length:Int)-((eV h l).length:Int):=(by have:=Tg.o;omega);have hws:IntKind.i64.wrap ((l.length:Int)-((eV h l).length:Int))=(l.length:Int)-((eV h l).length:Int):=IntWalk.i64_in _ (by have:=yR.o;omega);have HCV:=aa hcv;clear B1 K1 F1 hK yx LD Fi E_ HA8 HH8 mG HBH h80 acQ hcv;refine mJ 15 (fun w'=>w'.cell? ⟨bA,0,none⟩=some (.int .i64 (l.length:Int))/\True) (by kernel_rfl) (by kernel_rfl) ?_;have jv:Below W.heap.size W W.drew:=⟨rfl,rfl,rfl,aj _,fun _ _=>rfl⟩;have Fk:=aa (HM1.o.below jv);have aa8:eW W.drew bA 3 #[.int .i64 (l.length:Int)]:=ko.o;have hS:W.drew.cell? ⟨bA,0,none⟩=some (.int .i64 (l.length:Int))/\True:=⟨aa8.cell 0,trivial⟩;have Ih:=aa (eF Bz.o jv);have LP:=aa (j_.o.below jv j_.o.lt);have Co:=aa (show 0<(eV h l).length->Ap=some ⟨gp,0,none⟩/\TG W.drew gp (eV h l) from U5.o);have IC:=aa (show W.drew.heap[D]? = some (.deferred (some [])) from HK.o);have Z2:W0.heap.size<=W.drew.heap.size:=Z1;clear jv HM1 Bz j_ U5 HK ko Z1;generalize W.drew=Wq at*;have hm3:=Fk.o.box.cell 3;have hz3:=Fk.o.box.frozen 3;have T9:=Fk.o.box.apg 3 (.int .i64 ((eV h l).length:Int));have hm4:=T9.cell 4;have hz4:=T9.frozen 4;have hS3:(Wq.setCell ⟨mg,3,none⟩ (.int .i64 ((eV h l).length:Int))).cell? ⟨bA,0,none⟩=some (.int .i64 (l.length:Int))/\True:=⟨(ay (Below.heap_setCell Wq ⟨mg,3,none⟩ _ bA (by simp only;omega))).trans hS.1,trivial⟩;refine eT 0 (v:=(.pointer (some ⟨mg,0,none⟩))) rfl (by kernel_rfl) (fun _ _ _ h=>h) hS (by rfl) (fun w' hw'=>by obtain⟨h0,_⟩:=hw';go_simp) ?_;try simp only[ah,ae,af,ag]
    refine eT 1 (v:=(.pointer (some ⟨mg,0,none⟩))) rfl (by kernel_rfl) (fun _ _ _ h=>h) hS (by rfl) (fun w' hw'=>by obtain⟨h0,_⟩:=hw';go_simp) ?_;try simp only[ah,ae,af,ag]
    refine eT 2 (v:=(.slice Ap (eV h l).length cp)) rfl (by kernel_rfl) (fun _ _ _ h=>h) hS (by rfl) (fun w' hw'=>by obtain⟨h0,_⟩:=hw';go_simp) ?_;try simp only[ah,ae,af,ag]
    refine eT 3 (v:=(.int .i64 ((eV h l).length:Int))) rfl (by kernel_rfl) (fun _ _ _ h=>h) hS (by rfl) (fun w' hw'=>by obtain⟨h0,_⟩:=hw';go_simp) ?_;try simp only[ah,ae,af,ag]
    refine eT 4 (v:=(.int .i64 (l.length:Int))) rfl (by kernel_rfl) (fun _ _ _ h=>h) hS (by rfl) (fun w' hw'=>by obtain⟨h0,_⟩:=hw';go_simp) ?_;try simp only[ah,ae,af,ag]
    refine eT 5 (v:=(.slice Ap (eV h l).length cp)) rfl (by kernel_rfl) (fun _ _ _ h=>h) hS (by rfl) (fun w' hw'=>by obtain⟨h0,_⟩:=hw';go_simp) ?_;try simp only[ah,ae,af,ag]
    refine eT 6 (v:=(.int .i64 ((eV h l).length:Int))) rfl (by kernel_rfl) (fun _ _ _ h=>h) hS (by rfl) (fun w' hw'=>by obtain⟨h0,_⟩:=hw';go_simp) ?_;try simp only[ah,ae,af,ag]
    refine eT 7 (v:=(.int .i64 ((l.length:Int)-((eV h l).length:Int)))) rfl (by kernel_rfl) (fun _ _ _ h=>h) hS (by rfl) (fun w' hw'=>by obtain⟨h0,_⟩:=hw';go_simp) ?_;try simp only[ah,ae,af,ag]
    refine eT 8 (v:=(.pointer (some ⟨mg,0,none⟩))) rfl (by kernel_rfl) (fun _ _ _ h=>h) hS (by rfl) (fun w' hw'=>by obtain⟨h0,_⟩:=hw';go_simp) ?_;try simp only[ah,ae,af,ag]
    refine eT 9 (v:=(.pointer (some ⟨mg,3,none⟩))) rfl (by kernel_rfl) (fun _ _ _ h=>h) hS (by rfl) (fun w' hw'=>by obtain⟨h0,_⟩:=hw';go_simp) ?_;try simp only[ah,ae,af,ag]
    refine eT 10 (v:=(.pointer (some ⟨mg,3,none⟩))) rfl (by kernel_rfl) (fun _ _ _ h=>h) hS (by rfl) (fun w' hw'=>by obtain⟨h0,_⟩:=hw';go_simp) ?_;try simp only[ah,ae,af,ag]
    refine fh 11 (by kernel_rfl) rfl rfl (fun K hK=>?_);go_simp;refine hK _ _ (fun _=>hS3) ?_;clear hK K;try simp only[ah,ae,af,ag]
    clear hS;have hS:=hS3;refine fh 12 (by kernel_rfl) rfl rfl (fun K hK=>?_);go_simp;refine hK _ _ (fun _=>hS) ?_;clear hK K;try simp only[ah,ae,af,ag]
    refine fh 13 (by kernel_rfl) rfl rfl (fun K hK=>?_);go_simp;refine hK _ _ (fun _=>hS) ?_;clear hK K;try simp only[ah,ae,af,ag]
    refine fh 14 (by kernel_rfl) rfl rfl (fun K hK=>?_);go_simp;refine hK _ _ (fun _=>hS) ?_;clear hK K;try simp only[ah,ae,af,ag]
    refine fh 15 (by kernel_rfl) rfl rfl (fun K hK=>?_);go_simp;refine hK _ _ (fun h=>absurd h (by decide)) ?_;clear hK K;try simp only[ah,ae,af,ag]
    refine g_ (by kernel_rfl) ?_ _;simp only[Calm,Exit.then];have Bu:=aa T9;clear hS hS3 hm3 hz3 hm4 hz4 T9 aa8 hws agC;have rC:∀ q,q≠mg->((Wq.setCell ⟨mg,3,none⟩ (.int .i64 ((eV h l).length:Int))).setCell ⟨mg,4,none⟩ (.int .i64 ((l.length:Int)-((eV h l).length:Int)))).heap[q]? = Wq.heap[q]? :=fun q hq=>(Below.heap_setCell _ ⟨mg,4,none⟩ _ q hq).trans (Below.heap_setCell _ ⟨mg,3,none⟩ _ q hq);have WH:=aa (De (u0:=(eV h l).length) (u1:=l.length-(eV h l).length) (u2:=0) (u3:=Iy (eV h l)) (u4:=0) Fk.o (by rw[HCV.o];exact Bu.o.apg 4 _) rC);have acX:w.heap.size<mg:=(by have:=Fk.o.hg;have:=Cw.o;omega);have yv:=aa ((Ih.o.setCell (p:=⟨mg,3,none⟩) (aC acX) (.int .i64 ((eV h l).length:Int))).setCell (p:=⟨mg,4,none⟩) (aC acX) (.int .i64 ((l.length:Int)-((eV h l).length:Int))));have BN:=aa (LP.o.same (rC _ (by omega)));have Ya:((Wq.setCell ⟨mg,3,none⟩ (.int .i64 ((eV h l).length:Int))).setCell ⟨mg,4,none⟩ (.int .i64 ((l.length:Int)-((eV h l).length:Int)))).heap.size=Wq.heap.size:=(by simp[aG]);have Yw:=aa (show 0<(eV h l).length->Ap=some ⟨gp,0,none⟩/\TG ((Wq.setCell ⟨mg,3,none⟩ (.int .i64 ((eV h l).length:Int))).setCell ⟨mg,4,none⟩ (.int .i64 ((l.length:Int)-((eV h l).length:Int)))) gp (eV h l) from fun hn=>⟨(Co.o hn).1,(Co.o hn).2.same (aT Ya.symm) (rC gp (by have:=BC.o;omega))⟩);have HK3:=aa ((rC D (by have:=E7.o;omega)).trans IC.o);have HG9:=aa (show W0.heap.size<=((Wq.setCell ⟨mg,3,none⟩ (.int .i64 ((eV h l).length:Int))).setCell ⟨mg,4,none⟩ (.int .i64 ((l.length:Int)-((eV h l).length:Int)))).heap.size by rw[Ya];exact Z2);clear Fk Ih LP Co IC Z2 rC Ya Bu;generalize (Wq.setCell ⟨mg,3,none⟩ (.int .i64 ((eV h l).length:Int))).setCell ⟨mg,4,none⟩ (.int .i64 ((l.length:Int)-((eV h l).length:Int)))=W9 at*;have Kt:=aa (sJ (HH.o W9 yv.o) HG.o.fit);unfold ptr at Kt;have O1:=aa (show (eN h.roots).length=64 by rw[eY];exact HG.o.fit.roots);gi_wp2_with fail;refine⟨trivial,(callsIn_wide.2 Kt.o).mono ?_⟩;rintro e w10 ⟨gr,cr,rfl,Fb,hgr,pd⟩;rw[O1.o];have Im:=aa Fb;have Zp:=aa pd;clear Fb pd Kt;gi_wp2_with fail
    gi_loopw [78] (fun iv wr=>∃ k:Nat,iv= .int .i64 k/\k<=64/\Row wr gr 54 cr (eN ((h.roots.take k).map (fC (eV h l))++h.roots.drop k))/\Below W9.heap.size W9 wr) (fun iv _=>64-(intOf iv).toNat)
    case atStart=>exact⟨0,rfl,by omega,by simpa using Im.o,Zp.o⟩
    case round=>
     clear Im Zp;obtain⟨k,rfl,hk,hro,hb⟩:=hrel;have Il:=aa hro;have HB:=aa hb;clear hro hb;by_cases hlt:k<64
     .have Cb:k<h.roots.length:=(by rw[HG.o.fit.roots];exact hlt);have mh:=Il.o.cell (ft (l:=(h.roots.take k).map (fC (eV h l))++h.roots.drop k) (i:=k) (by simp;omega));rw[QR _ _ _ Cb]at mh;have Qx:h.roots.getD k 0<4294967296:=by
       have:=aP Cb;rw[ar,ai Cb];exact HG.o.fit.r32 _ this
      have E9:=aa (nx (WH.o.below HB.o) Qx);have HST:=aa (QS (fC (eV h l)) h.roots k Cb);have Sz:(wr.cell? ⟨gr,k,none⟩).isSome=true:=(by rw[mh];rfl);clear Cb Qx;generalize h.roots.getD k 0=r at*;generalize fC (eV h l) r=r' at*;gi_wp2_with fail;refine⟨trivial,(callsIn_wide.2 E9.o).mono ?_⟩;rintro e w11 ⟨rfl,rfl⟩;have hzk:=Il.o.frozen k;have Bi:=aa (Il.o.set k (.int .u32 (r':Int)));rw[HST.o]at Bi;have ko:=aa (HB.o.setCell (p:=⟨gr,k,none⟩) hgr (.int .u32 (r':Int)));clear Il HB E9 HST;gi_wp2_with fail;go_roundw
      case rel=>exact⟨k+1,by go_num,by omega,Bi.o,ko.o⟩
      case measure=>simp[intOf];omega
     .obtain rfl:k=64:=(by omega);have hE:=Il.o;rw[ax (by rw[HG.o.fit.roots];omega),List.drop_of_length_le (by rw[HG.o.fit.roots];omega),aR]at hE;have HRE:=aa (show Row wr gr 54 cr (eN (tT h l)) from hE);clear hE Il;have HFr:=aa (eF yv.o HB.o);have uQ:=aa (N9 (HH.o wr HFr.o) HG.o.fit);unfold ptr at uQ;have HL1:=aa (eY h.words);gi_wp2_with fail;refine⟨trivial,(callsIn_wide.2 uQ.o).mono ?_⟩;rintro e w12 ⟨go,co,rfl,hrw,hgo,oa⟩;rw[HL1.o];have uJ:=aa (eF HB.o oa);have aap:=aa (HRE.o.below oa);have II:=aa hrw;have Ss:=aa (show W9.heap.size<=wr.heap.size/\wr.heap.size<=w12.heap.size from⟨HB.o.size,oa.size⟩);clear hrw oa HB HRE uQ HFr;have YR:=aa (show (eN (tT h l))[0]? = some (.int .u32 (kQ h l:Int)) by
       rw[ft (by unfold tT;rw[au,HG.o.fit.roots];omega)];unfold tT kQ;rw[ar,aB,ai (by rw[HG.o.fit.roots];omega),ar,ai (by rw[HG.o.fit.roots];omega)];rfl)
      have HKZ:=aa (show (fH h l).length=(eV h l).length by rw[C5,YH.o]);have Z4:=aa (WH.o.below uJ.o);have LH:=aa (eF yv.o uJ.o);have YT:=aa (show mg<W9.heap.size/\W9.heap.size<=w12.heap.size from⟨WH.o.box.lt,uJ.o.size⟩);have Cu:=aa hgr;have Sl:=aa (show W9.heap.size<=go from aK Ss.o.1 hgo);clear Ss;clear hgr hgo;gi_wp2_with fail
      gi_loopw [97] (fun iv wx=>∃ (k:Nat) (v:Value),iv= .int .i64 k/\k<=(eV h l).length/\jM wx mb mg mb (.pointer (some ⟨p.g,0,none⟩)) v ([0]++fV ((gZ h l).take k)) (eV h l) (eV h l).length (l.length-(eV h l).length) 0 (Iy (eV h l)) (yf (eV h l) ((fH h l).take k))/\xv mg v0 v w12 wx) (fun iv _=>(eV h l).length-(intOf iv).toNat)
      case atStart=>exact⟨0,v0,rfl,by omega,by simpa[fV,yf] using Z4.o,xv.refl _ _ _⟩
      case round=>
       clear Z4;obtain⟨k,v,rfl,hk,hm,hf⟩:=hrel;have HM:=aa hm;have HF:=aa hf;clear hm hf;by_cases hlt:k<(eV h l).length
       .have Y9:k<(fH h l).length:=(by rw[HKZ.o];exact hlt);obtain⟨rfl,Zb⟩:=Yw.o (by omega);have hq:=ai hlt;have agW:gp<W4.heap.size/\W3.heap.size<=gp:=⟨by have:=HGA.o;omega,BC.o.1⟩;have abj:W4.heap.size<=W9.heap.size:=(by have:=E7.o;have:=HG9.o;have:=YA.o;omega);have Gs:∀ q,W3.heap.size<=q->v0.ownBlock≠some q:=fun q hq e=>by have:=YQ.o q e;omega
        have ab1:W9.heap.size<=w12.heap.size:=YT.o.2;have K5:w12.heap[gp]? = W9.heap[gp]? :=uJ.o.block gp (by omega);have hPw:=(Zb.same ab1 K5).same HF.o.size (HF.o.same gp (by omega) (by have:=BC.o;omega) (Gs gp (by omega)));obtain⟨hc0,hc1⟩:=hPw.2 k _ hq;have abS:((eV h l)[k]).1=((fH h l)[k]).1:=by
         have h1:=jA h l;rw[<-jW]at h1;have h2:=congrArg (fun z=>z[k]?) h1;simp only[aB,hq,ai Y9,Option.map_some]at h2;exact aw h2
        obtain⟨j,hj,SE,Iu,hp3⟩:=nk (aP Y9);obtain⟨o,ho⟩ :∃ o,o=2*eG (l.take j):=⟨_,rfl⟩;have HO:=aa ho;rw[abS,SE,<-ho]at hc0;clear ho;have X3:mg<W3.heap.size:=BC.o.2.2.1;obtain⟨hrow,hne⟩:=HF.o.row II.o (by have:=Sl.o;omega) (Gs go (by have:=Sl.o;have:=BC.o;omega));have Fb:=HF.o.row aap.o (by have:=Cu.o;omega) (Gs gr (by have:=Cu.o;have:=BC.o;omega));have Jh:Below w.heap.size w wr:=by
         have h1:=HF.o.below (B:=w.heap.size) (by omega) (fun q e=>by have:=YQ.o q e;have:=Cw.o;omega) LH.o.size;exact LH.o.trans h1
        have lJ:=aa Jh;have aaq:=aa hrow;have pS:=aa hne;have Im:=aa Fb.1;have K6:(gZ h l).take (k+1)=(gZ h l).take k++[j6 (eV h l) (kQ h l) (l[j])]:=by
         have mh:(gZ h l)[k]? = some (j6 (eV h l) (kQ h l) (l[j])):=by
          unfold gZ;rw[aB,ai Y9,Option.map_some,Iu]
         rw[az,mh];rfl
        have hzk:(fH h l).take (k+1)=(fH h l).take k++[(fH h l)[k]]:=(by rw[az,ai Y9];rfl);have HWS:=aa (show [0]++fV ((gZ h l).take (k+1))=([0]++fV ((gZ h l).take k))++(j6 (eV h l) (kQ h l) (l[j])).ws by
         rw[K6,jU,fD,km,aR,List.append_assoc])
        have pR:=aa (show yf (eV h l) ((fH h l).take (k+1))=yf (eV h l) ((fH h l).take k)+lU (eV h l) (l[j]) by
         rw[hzk,PI,Iu])
        have acZ:([0]++fV ((gZ h l).take k)).length<=1048576:=by
         have h1:=r9 (aA k (gZ h l));have h2:=zi HG.o;have h3:=HG.o.fit.room;have h4:=HG.o.fit.hi;simp only[aJ,aq,aQ]at*;omega
        have agK:yf (eV h l) ((fH h l).take k)<=1000000000000:=by
         have h1:=PH (eV h l) ((fH h l).take k);have h2:(fV (((fH h l).take k).map (·.2))).length<=(fV l).length:=r9 (((aA k _).map _).trans (pu h l));have h3:=HG.o.fit.room;have h4:=HG.o.fit.hi;have h5:=congrArg aM HG.o.laid.words;rw[aq]at h5;omega
        have acT:=Im.o.cell YR.o;have HJ:=aa hj;generalize ((eV h l)[k]).2=y at hc1;clear Zb hq agW abj Gs ab1 K5 hPw abS SE Iu hp3 K6 hzk Y9 X3 hrow hne Fb Jh
        gi_upto_region 26 with fail
        have iW:Below wr.heap.size wr (wr.alloc (.cells #[.int .u32 (o:Int),.int .u32 (y:Int)] 176)):=(Below.refl _ _).alloc (aj _) _;have Z5:=aa (HM.o.below iW);have HX5:=aa (eW.new wr 176 #[.int .u32 (o:Int),.int .u32 (y:Int)]);have mX:=aa (HF.o.trans (xv.apa (mg:=mg) (v:=v) iW));have j9:=aa (aaq.o.below iW);have HQ5:=aa (Im.o.below iW);have jL:=aa (eF lJ.o iW);clear iW HM HF aaq Im lJ hc0 hc1 acT;generalize wr.alloc (.cells #[.int .u32 (o:Int),.int .u32 (y:Int)] 176)=W5 at*;generalize wr.heap.size=b6 at*;refine mJ 7 (fun w'=>w'.cell? ⟨b6,0,none⟩=some (.int .u32 (o:Int))/\w'.cell? ⟨gr,0,none⟩=some (.int .u32 (kQ h l:Int))) (by kernel_rfl) (by kernel_rfl) ?_;have jv:Below W5.heap.size W5 W5.drew:=⟨rfl,rfl,rfl,aj _,fun _ _=>rfl⟩;have ID:=aa Z5.o.drew;have Tb:=aa (mX.o.trans (xv.apa (mg:=mg) (v:=v) jv));have HRq:=aa (j9.o.below jv);have Wl:=aa (eF jL.o jv);have hS:W5.drew.cell? ⟨b6,0,none⟩=some (.int .u32 (o:Int))/\W5.drew.cell? ⟨gr,0,none⟩=some (.int .u32 (kQ h l:Int)):=⟨HX5.o.cell 0,HQ5.o.cell YR.o⟩;clear jv Z5 HX5 mX j9 HQ5 jL;generalize W5.drew=Wq at*;have hBm:mb<=Wq.heap.size:=aC ID.o.map.lt;have Tf:=aa (Uy (void:=kQ h l) ID.o (HH.o Wq Wl.o) HG.o (HS.o Wq Wl.o) HJ.o HRq.o pS.o hBm (fun x hx=>rY HG.o hx) (Lt HG.o) acZ agK);unfold aaP at Tf;rw[<-HWS.o,<-pR.o,<-HO.o]at Tf;generalize kQ h l=void at*;refine eT 0 (v:=(.pointer (some ⟨mg,0,none⟩))) rfl (by kernel_rfl) (fun _ _ _ h=>h) hS (by rfl) (fun w' hw'=>by obtain⟨h0,h1⟩:=hw';go_simp) ?_;try simp only[ah,ae,af,ag]
        refine fW 1 [2,7] (v:=(.pointer (some ⟨b6,0,none⟩))) rfl (by kernel_rfl) (fun _ _ _ h=>h) hS (by rfl) (fun w' hw'=>by obtain⟨h0,h1⟩:=hw';go_simp) ?_;try simp only[ah,ae,af,ag]
        refine eT 2 (v:=(.int .u32 (o:Int))) rfl (by kernel_rfl) (fun _ _ _ h=>h) hS (by rfl) (fun w' hw'=>by obtain⟨h0,h1⟩:=hw';go_simp) ?_;try simp only[ah,ae,af,ag]
        refine eT 3 (v:=(.slice (some ⟨go,0,none⟩) h.words.length co)) rfl (by kernel_rfl) (fun _ _ _ h=>h) hS (by rfl) (fun w' hw'=>by obtain⟨h0,h1⟩:=hw';go_simp) ?_;try simp only[ah,ae,af,ag]
        refine fW 4 [5,6,7] (v:=(.slice (some ⟨gr,0,none⟩) 64 cr)) rfl (by kernel_rfl) (fun _ _ _ h=>h) hS (by rfl) (fun w' hw'=>by obtain⟨h0,h1⟩:=hw';go_simp) ?_;try simp only[ah,ae,af,ag]
        refine fW 5 [6,7] (v:=(.pointer (some ⟨gr,0,none⟩))) rfl (by kernel_rfl) (fun _ _ _ h=>h) hS (by rfl) (fun w' hw'=>by obtain⟨h0,h1⟩:=hw';go_simp) ?_;try simp only[ah,ae,af,ag]
        refine eT 6 (v:=(.int .u32 (void:Int))) rfl (by kernel_rfl) (fun _ _ _ h=>h) hS (by rfl) (fun w' hw'=>by obtain⟨h0,h1⟩:=hw';go_simp) ?_;try simp only[ah,ae,af,ag]
        refine fh 7 (by kernel_rfl) rfl rfl (fun K hK=>?_);go_simp;refine Tf.o.mono ?_;rintro e W8 ⟨rfl,v',hm8,hf8⟩;have yx:=aa hm8;have Fi:=aa (Tb.o.trans hf8);clear hm8 hf8 Tf ID Tb HRq Wl hS;refine hK _ _ (fun h=>absurd h (by decide)) ?_;clear hK K;try simp only[ah,ae,af,ag]
        refine g_ (by kernel_rfl) ?_ _;simp only[Calm,Exit.then];gi_wp2_with fail;go_roundw
        case rel=>exact⟨k+1,v',by go_num,by omega,yx.o,Fi.o⟩
        case measure=>simp[intOf];omega
       .obtain rfl:k=(eV h l).length:=(by omega);have hE:=HM.o;rw[ax (by rw[o9,HKZ.o];exact aj _),ax (by rw[HKZ.o];exact aj _)]at hE;obtain⟨gv,cv,Oz,MB,-,hgv⟩:=Row.apk hE.own (by simp);have Jh:Below w.heap.size w wr:=by
         have h1:=HF.o.below (B:=w.heap.size) (by have:=Cw.o;have:=hE.hg;omega) (fun q e=>by have:=YQ.o q e;have:=Cw.o;omega) LH.o.size;exact LH.o.trans h1
        have Gs:∀ q,W3.heap.size<=q->v0.ownBlock≠some q:=fun q hq e=>by have:=YQ.o q e;omega
        have X3:mg<W3.heap.size:=BC.o.2.2.1;have h39:W3.heap.size<=W9.heap.size:=(by have:=E7.o;have:=HG9.o;have:=YA.o;have:=BC.o;omega);have Fb:=(HF.o.row aap.o (by have:=Cu.o;omega) (Gs gr (by have:=Cu.o;omega))).1;have hD0:W0.heap.size<=D:=hD;have agt:W3.heap.size<=W0.heap.size:=(by have:=E7.o;have:=YA.o;have:=BC.o;omega);have XD:=(uJ.o.block D (fA HK3.o)).trans HK3.o;have hKr:wr.heap[D]? = some (.deferred (some [])):=(HF.o.same D (fA XD) (by omega) (Gs D (by omega))).trans XD
        have hzr:eW wr w.heap.size 62 #[.int .i64 0,.int .i64 0,.int .i64 0,.int .i64 0,.int .i64 0]:=
         (BN.o.same (uJ.o.block _ BN.o.lt)).same (HF.o.same _ (aI BN.o.lt YT.o.2) (by have:=hE.hg;have:=Cw.o;omega) (fun e=>by have:=YQ.o _ e;have:=Cw.o;omega))
        have uy:=aa hE;have HRV:=aa MB;have xq:=aa Jh;have Im:=aa Fb;have HKR:=aa hKr;have TC:=aa hzr;have uL:=aa (zi HG.o);have S5:=aa (show h.words.length<=1048576 by have h1:=HG.o.fit.room;have h2:=HG.o.fit.hi;omega);have HWS:=aa (show [0]++fV (gZ h l)=0 :: fV (gZ h l) from rfl);subst Oz;clear hE MB Jh Gs X3 h39 Fb hD0 agt XD hKr hzr HM HF;rw[HWS.o]at uy HRV;have zC:(0 :: fV (gZ h l)).length=1+(fV (gZ h l)).length:=(by rw[aq];omega);have hcw:=uL.o;have hfw:=S5.o
        have Ea:=aa (show ∀ Wq:World,Below w.heap.size w Wq->Row Wq gv 32 cv (eN (0 :: fV (gZ h l)))->Row Wq gr 54 cr (eN (tT h l))->
         Calls Tryz.prog 94 #[ptr p.g,.slice (some ⟨gv,0,none⟩) (0 :: fV (gZ h l)).length cv,.slice (some ⟨gr,0,none⟩) 64 cr,.int .u32 (h.last:Nat)] Wq (LR p (jP h l) (.int .i64 0) Wq) from fun Wq hb r1 r2=>by
         have hR:(tT h l).length=64:=(by unfold tT;rw[au];exact HG.o.fit.roots);have Qq:=r1.reads (B:=Wq.heap.size) r1.lt;have SD:=r2.reads (B:=Wq.heap.size) r2.lt;rw[eY]at Qq SD;rw[hR]at SD;have hro:=HG.o.fit.room;have h0:=vE (size:=h.size) (ws:=0 :: fV (gZ h l)) (rs:=tT h l) (last:=h.last) (by rw[hR];simp only[aq]at*;omega) (I6 HG.o);have h1:=yZ (HH.o Wq hb) HG.o.fit (HS.o Wq hb) (fun k hk=>yX.o k (aK hb.size hk)) _ _ cv _ (by omega) Qq (KF HG.o) _ _ cr _ (by omega) SD (KE HG.o) h.last HG.o.fit.l32;rw[h0,show h.apH (0 :: fV (gZ h l)) (tT h l) h.last=jP h l by unfold HM.apH;rw[if_pos h0];rfl]at h1;exact h1)
        unfold ptr at Ea;have Tk:=aa (fun (Wq:World) (hb:Below w.heap.size w Wq)=>Gx (HH.o Wq hb) HG.o.fit);unfold ptr at Tk;have Wo:=aa (show ∀ LW,LW=(0 :: fV (gZ h l)).length->PK h l= .agg #[.int .i64 ((eV h l).length:Nat),.int .i64 ((l.length-(eV h l).length:Nat):Nat),.int .i64 ((h.words.length-LW:Nat):Nat),.int .i64 (Iy (eV h l):Nat),.int .i64 (yf (eV h l) (fH h l):Nat)] from fun LW e=>by
         unfold PK;rw[YH.o,e,zC];rfl)
        have Wo:=aa (Wo.o _ rfl);clear zC HWS;generalize (0 :: fV (gZ h l)).length=LW at*;have hws:IntKind.i64.wrap ((h.words.length:Int)-(LW:Int))=(h.words.length:Int)-(LW:Int):=IntWalk.i64_in _ (by omega);have hcv:((h.words.length-LW:Nat):Int)=(h.words.length:Int)-(LW:Int):=(by omega);have aeV:=aa hcv;have wy:=uy.o.box.cell 2;have hm5:=uy.o.box.cell 5;have hz5:=uy.o.box.frozen 5;clear hcv hcw hfw
        gi_upto_region 29 with fail
        have rC:∀ q,q≠mg->(wr.setCell ⟨mg,5,none⟩ (.int .i64 ((h.words.length:Int)-(LW:Int)))).heap[q]? = wr.heap[q]? :=fun q hq=>Below.heap_setCell wr ⟨mg,5,none⟩ _ q hq;have Mo:=uy.o.box.apg 5 (.int .i64 ((h.words.length:Int)-(LW:Int)));have ab4:gv≠mg:=fun e=>gL uy.o.own uy.o.box (by decide) (by rw[<-e];rfl);have ab2:gr≠mg:=(by have:=Cu.o;have:=YT.o;omega);have acY:w.heap.size<mg:=(by have:=uy.o.hg;have:=Cw.o;omega);have ni:=aa Mo;have aas:=aa (HRV.o.same (rC gv ab4));have aar:=aa (Im.o.same (rC gr ab2));have ZX:=aa ((rC D (by have:=E7.o;have:=YA.o;omega)).trans HKR.o);have Xi:=aa (TC.o.same (rC _ (by omega)));have Zv:=aa (xq.o.setCell (p:=⟨mg,5,none⟩) (aC acY) (.int .i64 ((h.words.length:Int)-(LW:Int))));clear Mo rC ab4 ab2 wy hm5 hz5 hws uy HRV Im HKR TC xq;generalize wr.setCell ⟨mg,5,none⟩ (.int .i64 ((h.words.length:Int)-(LW:Int)))=W28 at*;refine mJ 8 (fun w'=>w'.cell? ⟨mg,2,none⟩=some (.slice (some ⟨gv,0,none⟩) LW cv)/\True) (by kernel_rfl) (by kernel_rfl) ?_;have jv:Below W28.heap.size W28 W28.drew:=⟨rfl,rfl,rfl,aj _,fun _ _=>rfl⟩;have Wj:=aa (ni.o.below jv ni.o.lt);have afy:=aa (aas.o.below jv);have afw:=aa (aar.o.below jv);have WE:=aa (show W28.drew.heap[D]? = some (.deferred (some [])) from ZX.o);have Xj:=aa (Xi.o.below jv Xi.o.lt);have Iz:=aa (eF Zv.o jv);clear jv ni aas aar ZX Xi Zv;generalize W28.drew=Wq at*;have hS:Wq.cell? ⟨mg,2,none⟩=some (.slice (some ⟨gv,0,none⟩) LW cv)/\True:=⟨Wj.o.cell 2,trivial⟩;have Z0:=aa (Ea.o Wq Iz.o afy.o afw.o);have Z3:=aa (Tk.o Wq Iz.o);refine eT 0 (v:=(.pointer (some ⟨p.g,0,none⟩))) rfl (by kernel_rfl) (fun _ _ _ h=>h) hS (by rfl) (fun w' hw'=>by obtain⟨h0,_⟩:=hw';go_simp) ?_;try simp only[ah,ae,af,ag]
        refine fW 1 [2,3,4,8] (v:=(.pointer (some ⟨mg,0,none⟩))) rfl (by kernel_rfl) (fun _ _ _ h=>h) hS (by rfl) (fun w' hw'=>by obtain⟨h0,_⟩:=hw';go_simp) ?_;try simp only[ah,ae,af,ag]
        refine fW 2 [3,4,8] (v:=(.pointer (some ⟨mg,0,none⟩))) rfl (by kernel_rfl) (fun _ _ _ h=>h) hS (by rfl) (fun w' hw'=>by obtain⟨h0,_⟩:=hw';go_simp) ?_;try simp only[ah,ae,af,ag]
        refine fW 3 [4,8] (v:=(.pointer (some ⟨mg,2,none⟩))) rfl (by kernel_rfl) (fun _ _ _ h=>h) hS (by rfl) (fun w' hw'=>by obtain⟨h0,_⟩:=hw';go_simp) ?_;try simp only[ah,ae,af,ag]
        refine eT 4 (v:=(.slice (some ⟨gv,0,none⟩) LW cv)) rfl (by kernel_rfl) (fun _ _ _ h=>h) hS (by rfl) (fun w' hw'=>by obtain⟨h0,_⟩:=hw';go_simp) ?_;try simp only[ah,ae,af,ag]
        refine eT 5 (v:=(.slice (some ⟨gr,0,none⟩) 64 cr)) rfl (by kernel_rfl) (fun _ _ _ h=>h) hS (by rfl) (fun w' hw'=>by obtain⟨h0,_⟩:=hw';go_simp) ?_;try simp only[ah,ae,af,ag]
        refine fW 6 [7,8] (v:=(.pointer (some ⟨p.g,0,none⟩))) rfl (by kernel_rfl) (fun _ _ _ h=>h) hS (by rfl) (fun w' hw'=>by obtain⟨h0,_⟩:=hw';go_simp) ?_;try simp only[ah,ae,af,ag]
        refine fh 7 (by kernel_rfl) rfl rfl (fun K hK=>?_);go_simp;refine Z3.o.mono ?_;rintro e w7 ⟨rfl,rfl⟩;refine hK _ _ (fun _=>hS) ?_;clear hK K;try simp only[ah,ae,af,ag]
        refine fh 8 (by kernel_rfl) rfl rfl (fun K hK=>?_);go_simp;refine Z0.o.mono ?_;rintro e Fu ⟨p',rfl,aba,hst⟩;have ae6:=aa aba;have HST:=aa hst;have HPM:=aa (show ∀ j,p.has j->j<w.heap.size from WR.o);have mm:=aa (Wj.o.same (hst.block mg Wj.o.lt (fun e=>by have:=WR.o mg e;omega)));have yY:=aa (Xj.o.same (hst.block _ Xj.o.lt (fun e=>by have:=WR.o _ e;omega)));have ae_:=aa ((hst.block D (fA WE.o) (fun e=>by have:=WR.o D e;have:=E7.o;have:=YA.o;omega)).trans WE.o);clear aba hst Z0 Z3 hS Ea Tk;refine hK _ _ (fun h=>absurd h (by decide)) ?_;clear hK K;try simp only[ah,ae,af,ag]
        refine g_ (by kernel_rfl) ?_ _;simp only[Calm,Exit.then];generalize hT1:((l.length-(eV h l).length:Nat):Int)=T1 at*;generalize hT2:(yf (eV h l) (fH h l):Int)=T2 at*;generalize hT3:(Iy (eV h l):Int)=T3 at*;have e3:Fu.cell? ⟨mg,3,none⟩=some (.int .i64 ((eV h l).length:Int)):=(mm.o.cell 3).trans (by simp);have e4:Fu.cell? ⟨mg,4,none⟩=some (.int .i64 T1):=(mm.o.cell 4).trans (by simp);have e5:Fu.cell? ⟨mg,5,none⟩=some (.int .i64 ((h.words.length:Int)-(LW:Int))):=(mm.o.cell 5).trans (by simp);have e6:Fu.cell? ⟨mg,6,none⟩=some (.int .i64 T3):=(mm.o.cell 6).trans (by simp);have e7:Fu.cell? ⟨mg,7,none⟩=some (.int .i64 T2):=(mm.o.cell 7).trans (by simp);have z0:=yY.o.frozen 0;have z1:=yY.o.frozen 1;have z2:=yY.o.frozen 2;have z3:=yY.o.frozen 3;have z4:=yY.o.frozen 4;have d0:=yY.o.cell 0;have d1:=yY.o.cell 1;have d2:=yY.o.cell 2;have d3:=yY.o.cell 3;have d4:=yY.o.cell 4;have gh:=aa (yY.o.apf (.int .i64 ((eV h l).length:Int)) (.int .i64 T1) (.int .i64 ((h.words.length:Int)-(LW:Int))) (.int .i64 T3) (.int .i64 T2));have S4:=aa (show ∀ k,k≠w.heap.size->(((((Fu.setCell ⟨w.heap.size,0,none⟩ (.int .i64 ((eV h l).length:Int))).setCell ⟨w.heap.size,1,none⟩ (.int .i64 T1)).setCell ⟨w.heap.size,2,none⟩ (.int .i64 ((h.words.length:Int)-(LW:Int)))).setCell ⟨w.heap.size,3,none⟩ (.int .i64 T3)).setCell ⟨w.heap.size,4,none⟩ (.int .i64 T2)).heap[k]? = Fu.heap[k]? from fun k h=>by
         rw[Below.heap_setCell _ ⟨w.heap.size,4,none⟩ _ k h,Below.heap_setCell _ ⟨w.heap.size,3,none⟩ _ k h,Below.heap_setCell _ ⟨w.heap.size,2,none⟩ _ k h,Below.heap_setCell _ ⟨w.heap.size,1,none⟩ _ k h,Below.heap_setCell _ ⟨w.heap.size,0,none⟩ _ k h])
        have WN:=aa (show (((((Fu.setCell ⟨w.heap.size,0,none⟩ (.int .i64 ((eV h l).length:Int))).setCell ⟨w.heap.size,1,none⟩ (.int .i64 T1)).setCell ⟨w.heap.size,2,none⟩ (.int .i64 ((h.words.length:Int)-(LW:Int)))).setCell ⟨w.heap.size,3,none⟩ (.int .i64 T3)).setCell ⟨w.heap.size,4,none⟩ (.int .i64 T2)).os=Fu.os/\(((((Fu.setCell ⟨w.heap.size,0,none⟩ (.int .i64 ((eV h l).length:Int))).setCell ⟨w.heap.size,1,none⟩ (.int .i64 T1)).setCell ⟨w.heap.size,2,none⟩ (.int .i64 ((h.words.length:Int)-(LW:Int)))).setCell ⟨w.heap.size,3,none⟩ (.int .i64 T3)).setCell ⟨w.heap.size,4,none⟩ (.int .i64 T2)).tape=Fu.tape/\(((((Fu.setCell ⟨w.heap.size,0,none⟩ (.int .i64 ((eV h l).length:Int))).setCell ⟨w.heap.size,1,none⟩ (.int .i64 T1)).setCell ⟨w.heap.size,2,none⟩ (.int .i64 ((h.words.length:Int)-(LW:Int)))).setCell ⟨w.heap.size,3,none⟩ (.int .i64 T3)).setCell ⟨w.heap.size,4,none⟩ (.int .i64 T2)).output=Fu.output/\(((((Fu.setCell ⟨w.heap.size,0,none⟩ (.int .i64 ((eV h l).length:Int))).setCell ⟨w.heap.size,1,none⟩ (.int .i64 T1)).setCell ⟨w.heap.size,2,none⟩ (.int .i64 ((h.words.length:Int)-(LW:Int)))).setCell ⟨w.heap.size,3,none⟩ (.int .i64 T3)).setCell ⟨w.heap.size,4,none⟩ (.int .i64 T2)).heap.size=Fu.heap.size from⟨rfl,rfl,rfl,by simp[aG]⟩);gi_wp2_with fail;generalize (((((Fu.setCell ⟨w.heap.size,0,none⟩ (.int .i64 ((eV h l).length:Int))).setCell ⟨w.heap.size,1,none⟩ (.int .i64 T1)).setCell ⟨w.heap.size,2,none⟩ (.int .i64 ((h.words.length:Int)-(LW:Int)))).setCell ⟨w.heap.size,3,none⟩ (.int .i64 T3)).setCell ⟨w.heap.size,4,none⟩ (.int .i64 T2))=WF at*;clear e3 e4 e5 e6 e7 z0 z1 z2 z3 z4 d0 d1 d2 d3 d4;have hDw:w.heap.size<D:=(by have:=E7.o;have:=YA.o;have:=Cw.o;omega);have hKD:WF.heap[D]? = some (.deferred (some [])):=(S4.o D (by omega)).trans ae_.o;refine⟨by simp,.inl ⟨_,_,rfl,run_takeDeferred hKD,?_⟩⟩;have hg:=grownBy_putObj' WF D (.deferred none);have HP:=FC (B:=W0.heap.size) gh.o hg (fun r e=>by cases e;exact⟨hD,_,hKD,rfl⟩);have f0:=HP.cell 0;have f1:=HP.cell 1;have f2:=HP.cell 2;have f3:=HP.cell 3;have f4:=HP.cell 4;refine⟨.agg #[.int .i64 ((eV h l).length:Int),.int .i64 T1,.int .i64 ((h.words.length:Int)-(LW:Int)),.int .i64 T3,.int .i64 T2],by simp[results,Tryz.results28,go_sem,f0,f1,f2,f3,f4],?_⟩;have hDq:D<Wq.heap.size:=fA WE.o;have VV:w.heap.size<=Wq.heap.size:=Iz.o.size;have hall:∀ k,k≠w.heap.size->k≠D->(WF.putObj D (.deferred none)).heap[k]? = Fu.heap[k]? :=fun k h1 h2=>by
         by_cases hk:k<WF.heap.size
         .exact (hg.block k hk (fun e=>h2 (by first|exact aw e|exact (aw e).symm))).trans (S4.o k h1)
         .have hs:(WF.putObj D (.deferred none)).heap.size=WF.heap.size:=(by simp[World.putObj]);rw[Array.getElem?_eq_none (by omega),Array.getElem?_eq_none (by have:=WN.o.2.2.2;omega)]
        have hnp:∀ k,p'.has k->k≠w.heap.size/\k≠D:=fun k hk=>by
         rcases HST.o.rows k hk with h1|h1
         .have:=HPM.o k h1;omega
         .have h2:=Xj.o.lt;omega
        refine⟨p',by rw[Wo.o,aeV.o],ae6.o.same (fun k hk=>hall k (hnp k hk).1 (hnp k hk).2),?_⟩
        exact⟨hg.os.trans (WN.o.1.trans (HST.o.os.trans Iz.o.os)),hg.tape.trans (WN.o.2.1.trans (HST.o.tape.trans Iz.o.tape)),hg.output.trans (WN.o.2.2.1.trans (HST.o.output.trans Iz.o.output)),
         by have h1:=hg.size;have h2:=WN.o.2.2.2;have h3:=HST.o.size;omega,
         fun k hk hn=>(hall k (by omega) (by omega)).trans ((HST.o.block k (by omega) hn).trans (Iz.o.block k hk)),HST.o.g,
         fun k hk=>(HST.o.rows k hk).imp id (fun h1=>by omega)⟩
   case stop=>
    rintro D c pre W hD hp hx hK;exact hx.elim
end
section
open Go.RowKit
theorem ju.collect {W w:World}{p:HP}{g:Nat}{h:HM}{l:List Ob}(L:ju W w p g h)(G:h.Good l):Calls Tryz.prog 28 #[.pointer (some ⟨g,0,none⟩)] w (Done W p g (jP h l) (PK h l) w):=by
 have hh:=FN L.at_ G L.ap7.apl (fun k hk=>by
  have h1:=L.ap7.apl.lt;have h2:=L.ap7.pow.lt;exact⟨by omega,by omega⟩)
 rw[L.hg]at hh;exact hh.mono fun _ _ H=>L.aqx ⟨_,rv G⟩ H
end
section
open Go.RowKit
section
variable {h:HM}{l:List Ob}
theorem PS {pl:List (Nat × Nat)}{void x:Nat}(hd:lV pl x=false):tW pl void x=fC pl x:=by
 unfold lV at hd;unfold tW;rw[if_neg (of_decide_eq_false hd)]
end
end
end Go.Proofs.YtlkahgagmfhdaaaGreatDoor
