import Derived.Test.YtlkahgagmfhdaaaGreatDoorJMarks
import Derived.Sort.CutIn
set_option linter.unusedVariables false
set_option linter.unusedSimpArgs false
set_option linter.unusedSectionVars false
open List renaming setIfInBounds_toArray→ae,set_cons_zero→af,set_cons_succ→ag,getD_eq_getElem?_getD→aj,getElem?_eq_getElem→aq,length_append→ar,getElem_mem→ax,append_assoc→ay,length_range→az,length_map→aB,range→aD,length_cons→aF,getElem?_map→aI,take_of_length_le→aM,mem_of_mem_take→aP,append_toArray→aQ,take_succ_cons→aR,drop_succ_cons→aS,size_toArray→aU,push_toArray→aV,cons_append→aX,length_take→aY,length_nil→aZ,nil_append→a8,append_nil→a_,take_zero→bi,drop_zero→bj
open Nat renaming le_refl→ah,lt_of_lt_of_le→aw,lt_succ_self→aG,zero_le→aL,reduceAdd→bp,reduceSub→bq
open Go.Act renaming put→ai
open Go.World renaming size_alloc→ak,block_lt_of_cell?→au,cell?_alloc_lt→aA,cell?_setCell_other→aC,cell?_of_block→aH,cell?→br
open Go.KeepsOthers renaming refl→aJ
open Array renaming replicate_succ→aN,replicate_zero→aO
set_option maxRecDepth 100000
set_option maxHeartbeats 8000000
namespace Go.Proofs.YtlkahgagmfhdaaaGreatDoor
section
open Go.RowKit Go.Maps Go.Sort
attribute [local go_sem] Oper.semAt_some
def V7 (h:HM)(ser:Bool)(fr:List Nat)(w:World)(e:Ending)(w':World):Prop:=
 Below w.heap.size w w'/\((h.apn fr=false/\e= .returned (.tuple #[.slice none 0 0,.int .i64 3]))\/
  (h.apn fr=true/\f_ h.nmN h.ao_ fr=none/\e= .returned (.tuple #[.slice none 0 0,.int .i64 2]))\/
  (h.apn fr=true/\∃ l v,f_ h.nmN h.ao_ fr=some l/\xp h l/\e= .returned (.tuple #[v,.int .i64 0])/\
    w'.ownsRow w.heap.size 5 1 v (kF h ser fr l).length (fP (kF h ser fr l))))
def FT (pg:Nat)(ser:Bool)(A:Option Addr)(k c gb gG:Nat)(Am:Option Addr)(ln cm:Nat)(g:Nat->Value)(iz:Int):Array Value:=
 #[.pointer (some ⟨pg,0,none⟩),.bool ser,.slice A k c,undef,undef,undef,.slice none 0 0,.int .i64 0,.pointer (some ⟨gb,0,none⟩),.int .i64 0,.pointer (some ⟨gb+1,0,none⟩),undef,g 12,undef,g 14,g 15,g 16,undef,g 18,g 19,g 20,g 21,g 22,g 23,.tuple #[.pointer (some ⟨gG,0,none⟩),.int .i64 0],.pointer (some ⟨pg,0,none⟩),.slice A k c,.tuple #[.pointer (some ⟨gG,0,none⟩),.int .i64 0],.pointer (some ⟨gG,0,none⟩),.int .i64 0,.int .i64 0,.bool false,undef,.slice A k c,.int .i64 (k:Int),.int .i64 (k:Int),.bool false,g 37,g 38,g 39,g 40,g 41,g 42,g 43,g 44,g 45,.pointer (some ⟨gG,0,none⟩),.pointer (some ⟨gG,0,none⟩),.pointer (some ⟨gG,1,none⟩),.slice Am ln cm,.int .i64 (ln:Int),.int .i64 iz,g 52,g 53,g 54,g 55,g 56,g 57,g 58,g 59,g 60,g 61,g 62,g 63,g 64,g 65,g 66,g 67,g 68,g 69,g 70,g 71,g 72,g 73,g 74,g 75,g 76,g 77,g 78,g 79,g 80,g 81,g 82,g 83,g 84,g 85,g 86,g 87,g 88,g 89,g 90,g 91,g 92,g 93,g 94,g 95,g 96,g 97,g 98,g 99,g 100,g 101,g 102,g 103,g 104,g 105,g 106,g 107,g 108,g 109,g 110,g 111,g 112,g 113,g 114,g 115,g 116,g 117,g 118,g 119,g 120,g 121,g 122,g 123,g 124,g 125,g 126,g 127]
def CN (gb v:Nat)(g:Nat->Value):Array Value:=
 #[g 0,g 1,g 2,g 3,g 4,g 5,g 6,g 7,.pointer (some ⟨gb,0,none⟩),g 9,.pointer (some ⟨gb+1,0,none⟩),g 11,g 12,g 13,g 14,g 15,g 16,g 17,.int .u32 (v:Int),g 19,g 20,g 21,g 22,g 23,g 24,g 25,g 26,g 27,g 28,g 29,g 30,g 31,g 32,g 33,g 34,g 35,g 36,g 37,g 38,g 39,g 40,g 41,g 42,g 43,g 44,g 45,g 46,g 47,g 48,g 49,g 50,g 51,g 52,g 53,g 54,g 55,g 56,g 57,g 58,g 59,g 60,g 61,g 62,g 63,g 64,g 65,g 66,g 67,g 68,g 69,g 70,g 71,g 72,g 73,g 74,g 75,g 76,g 77,g 78,g 79,g 80,g 81,g 82,g 83,g 84,g 85,.int .u32 (v:Int),g 87,g 88,g 89,g 90,g 91,g 92,g 93,g 94,g 95,g 96,g 97,g 98,g 99,g 100,g 101,g 102,g 103,g 104,g 105,g 106,g 107,g 108,g 109,g 110,g 111,g 112,g 113,g 114,g 115,g 116,g 117,g 118,g 119,g 120,g 121,g 122,g 123,g 124,g 125,g 126,g 127]
theorem CF {w:World}{p:HP}{h:HM}{ls:List Ob}(H:fO w p h)(G:h.Good ls)(hh:h.apu)(hs:eX w)(ser:Bool)(A:Option Addr)(n c:Nat)(fr:List Nat)(hn:n<=10000000000000)(hr:eQ w w.heap.size 1 A n (eN fr))(h32:∀ x∈fr,x<4294967296):
 Calls Tryz.prog 55 #[ptr p.g,.bool ser,.slice A n c] w (V7 h ser fr w):=by
 have f:=G.fit;have hl:fr.length=n:=by have:=hr.1;rw[eY]at this;omega
 have wD:=aa (Ho H G hh hs A n c fr (by omega) hr h32);have HL:=aa hl;have HR:=aa hr;have HX:=aa h32;have HH:=aa H;clear hl hr h32 H;refine (callsIn_wide (n:=6)).1 ?_;refine callsIn_of_wp_marks Tryz.func55 rfl trivial ?_ rfl;simp only[Tryz.ntmps55,aU,aF,aZ,bp,bq,aN,aO,aV,aQ,a8,aX];unfold ptr at wD ⊢;gi_wp2_with fail;refine⟨trivial,(callsIn_wide.2 wD.o).mono ?_⟩;rintro e w1 ⟨hb1,⟨hf,rfl⟩|⟨hf,hm,rfl⟩|⟨hf,l,gG,mB,vm,vd,hm,hw,rfl,G1⟩⟩
 .clear wD;gi_wp2_with fail;refine⟨.tuple #[.slice none 0 0,.int .i64 3],by simp[results,Tryz.results55,go_sem],?_⟩;exact⟨hb1.alloc hb1.size _,.inl ⟨hf,rfl⟩⟩
 .clear wD;gi_wp2_with fail;refine⟨.tuple #[.slice none 0 0,.int .i64 2],by simp[results,Tryz.results55,go_sem],?_⟩;exact⟨hb1.alloc hb1.size _,.inr (.inl ⟨hf,hm,rfl⟩)⟩
 .obtain⟨Am,cm,rfl,-⟩:=fF G1.met;have HG1:=aa G1;have ko:=aa hb1;have HMM:=aa hm;have HW:=aa hw;have hgb:w.heap.size<=w1.heap.size:=hb1.size;have yO:=aa (show iP w gG mB w1.heap.size (w1.heap.size+1) (.pointer (some ⟨p.g,0,none⟩)) (.slice Am l.length cm) vd l [] (.slice none 0 0) ((w1.alloc (.cells #[.pointer (some ⟨gG,0,none⟩)] 220)).alloc (.cells #[.slice none 0 0] 22)) from by
   have Ji:=((Below.refl w1.heap.size w1).alloc (ah _) (.cells #[.pointer (some ⟨gG,0,none⟩)] 220)).alloc (by simp) (.cells #[.slice none 0 0] 22);refine⟨⟨eF hb1 Ji,G1.below Ji,?_⟩,?_,⟨rfl,.inl ⟨rfl,rfl⟩⟩,by omega⟩
   .exact (eW.new w1 _ _).alloc _
   .have:=eW.new (w1.alloc (.cells #[.pointer (some ⟨gG,0,none⟩)] 220)) 22 #[.slice none 0 0];rw[ak]at this;exact this)
  clear wD G1 hb1 hm hw;gi_wp2_with fail;clear HG1 ko;generalize w1.heap.size=gb at*;generalize (w1.alloc (.cells #[.pointer (some ⟨gG,0,none⟩)] 220)).alloc (.cells #[.slice none 0 0] 22)=w2 at*
  gi_loopw [12,35] (fun v i wr=>∃ k:Nat,k<=n/\i= .int .i64 k/\∃ vb,iP w gG mB gb (gb+1) (.pointer (some ⟨p.g,0,none⟩)) (.slice Am l.length cm) vd l (iK l id (fr.take k)) vb wr) (fun _ i _=>n-(intOf i).toNat)
  case atStart=>exact⟨0,by omega,rfl,_,yO.o⟩
  case round =>
   clear yO;obtain⟨k,hk,rfl,vb,C⟩:=hrel;by_cases hlt:k<n
   .obtain⟨ad,u0,rfl,hblk,hx,hcell⟩:=(HR.o.below C.gst.base).at_ hlt;rw[ft (by rw[HL.o];exact hlt)]at hx;injection hx with hx;subst hx;have kM:fr.getD k 0∈fr:=by
     rw[aj,aq (by rw[HL.o];exact hlt)];exact ax _
    have ho:=HX.o _ kM;have hl4:l.length<=4000000:=(by have:=HW.o.1;omega);have oV:=aa (He l id (xs:=fr) (i:=k) (by rw[HL.o];exact hlt));have hbl:(iK l id (fr.take k)).length<=50000000000000:=by
     have h1:=pG hl4 (f:=id) (xs:=fr.take k) (fun x hx=>HX.o x (aP hx));rw[aY]at h1;omega
    clear kM;have HO:=aa ho;rw[id_eq]at oV;generalize fr.getD k 0=y at*;generalize iK l id (fr.take k)=bs at*;have HC:=aa C;have k0:=C.bb.cell 0;have k1:=C.gst.box.cell 0;have hrf:=EU l y ho hl4;clear C ho;gi_wp2_with fail;refine wpIn_wide.2 ?_;refine iB 6 (fun w'=>w'.cell? ⟨gb+1,0,none⟩=some vb/\w'.cell? ⟨gb,0,none⟩=some (.pointer (some ⟨gG,0,none⟩))) (by kernel_rfl) ?_;have nj:=aa (HC.o.below (show Below wr.heap.size wr wr.drew from⟨rfl,rfl,rfl,ah _,fun _ _=>rfl⟩));clear k0 k1 HC hcell hblk;generalize wr.drew=W3 at*;have hS:W3.cell? ⟨gb+1,0,none⟩=some vb/\W3.cell? ⟨gb,0,none⟩=some (.pointer (some ⟨gG,0,none⟩)):=⟨nj.o.bb.cell 0,nj.o.gst.box.cell 0⟩;refine eT 0 (v:=vb) rfl (by kernel_rfl) (fun _ _ _ h=>h) hS (by rfl) (fun w' hw'=>by obtain⟨h0,h1⟩:=hw';go_simp) ?_;try simp only[ai,ae,af,ag]
    refine eT 1 (v:=.pointer (some ⟨gG,0,none⟩)) rfl (by kernel_rfl) (fun _ _ _ h=>h) hS (by rfl) (fun w' hw'=>by obtain⟨h0,h1⟩:=hw';go_simp) ?_;try simp only[ai,ae,af,ag]
    refine eT 2 (v:=.int .u32 (y:Int)) rfl (by kernel_rfl) (fun _ _ _ h=>h) hS (by rfl) (fun w' hw'=>by obtain⟨h0,h1⟩:=hw';go_simp) ?_;try simp only[ai,ae,af,ag]
    refine fh 3 (by kernel_rfl) rfl rfl (fun K hK=>?_);go_simp;refine (tK nj.o.gst.graph y HO.o hl4).mono ?_;rintro e w4 ⟨rfl,rfl⟩;try dsimp only
    refine hK _ _ (fun _=>hS) ?_;clear hK K;try simp only[ai,ae,af,ag]
    generalize ja l y=z at*;refine fh 4 (by kernel_rfl) rfl rfl (fun K hK=>?_);go_simp;refine hK _ _ (fun _=>⟨(aA W3 _ _ nj.o.bb.lt).trans hS.1,(aA W3 _ _ nj.o.gst.box.lt).trans hS.2⟩) ?_;clear hK K;try simp only[ai,ae,af,ag]
    refine fh 5 (by kernel_rfl) rfl rfl (fun K hK=>?_);go_simp;refine (lu (nj.o.own.alloc _) _ 1 z (by omega) ⟨rfl,fun _=>⟨_,rfl,by simp,cell_one_new _ _ _⟩⟩ (by omega) (by simp;have:=nj.o.gst.base.size;omega)).mono ?_;rintro e w5 ⟨v',rfl,fe,p8⟩;obtain⟨A5,c5,rfl,-⟩:=fF fe;generalize hcs:bs++fq z=cs at*;replace p8:=fG.ap9 _ _ _ p8;have LB:=nj.o.bb' p8;have k5:=LB.cell 0;have z5:=LB.frozen 0;have yt:=aa (nj.o.grow fe p8);try dsimp only
    refine hK _ _ (fun _=>⟨k5,?_⟩) ?_
    .exact (aH (p8.g.block gb nj.o.gst.box.lt (fun e=>eU nj.o.own nj.o.gst.box (by decide) e.symm))).trans hS.2
    clear hK K fe p8 LB;try simp only[ai,ae,af,ag]
    refine fh 6 (by kernel_rfl) rfl rfl (fun K hK=>?_);go_simp;refine hK _ _ (fun h=>absurd h (by decide)) ?_;clear hK K;try simp only[ai,ae,af,ag]
    refine g_ (by kernel_rfl) ?_ _;simp only[Calm,Exit.then];gi_wp2_with fail;go_roundw
    case rel=>exact⟨k+1,by omega,by go_num,_,by rw[oV.o];exact yt.o⟩
    case measure=>simp[intOf];omega
   .obtain rfl:k=n:=(by omega);have HC:=aa C;have k1:=C.gst.box.cell 0;have k2:=C.gst.graph.box.cell 1;clear C hk hlt;gi_wp2_with fail;refine r8 (fun j a W=>∃ (i:Nat) (iz:Int) (ds:List Deferred) (vb:Value),iz=(i:Int)/\a={ tmps:=FT p.g ser A k c gb gG Am l.length cm (fun n=>a.tmps.toList.getD n undef) iz,defers:=ds }/\j=l.length-i/\i<=l.length/\iP w gG mB gb (gb+1) (.pointer (some ⟨p.g,0,none⟩)) (.slice Am l.length cm) vd l (iK l id fr++((eL l).take i).flatMap (h.apM ser l)) vb W/\gC w.heap.size ds W) l.length ?start ?round
    case start=>
     refine⟨0,0,[],vb,rfl,rfl,rfl,aL _,?_,gC.nil _ _⟩;have:=HC.o;rw[aM (by rw[HL.o];exact ah _)]at this;simpa using this
    case round=>
     clear HC k1 k2;rintro j a W ⟨i,iz,ds,vb,hiz,ha,hj,hil,C,MK⟩;subst hiz;generalize (fun n=>a.tmps.toList.getD n undef)=g at ha;unfold FT at ha;subst ha;have HJ:=aa hj;have ag4:l.length<=65536:=HW.o.1;have HC:=aa C;have yy:=aa MK;have k0:=C.bb.cell 0;have k1:=C.gst.box.cell 0;have k2:=C.gst.graph.box.cell 1;have Up:=aa (JR C.gst.graph.met);clear C MK hj;by_cases hlt:i<l.length
     .have hd:decide ((i:Int)<(l.length:Int))=true:=(by simp;omega);have tz:=aa hlt;obtain⟨ad,u0,rfl,_,hx,hcell⟩:=Up.o.at_ hlt;rw[ft (by rw[fI];exact hlt),rO hlt]at hx;injection hx with hx;subst hx;have EC:=HW.o.2.2.1 _ (zW hlt);have HO:=aa EC;have oV:=aa (tB (h.apM ser l) (xs:=eL l) (i:=i) (by rw[fI];exact hlt));rw[rO hlt]at oV;have hbl:=Q5 f hh ser HW.o.1 HW.o.2.2.1 i;clear EC;generalize (l.getD i default).o=o at*;have zD:o<4294967296:=by
       have h1:=HM.ap5 HO.o;have h2:=f.marks;have h3:=f.room;have h4:=f.hi;omega
      have pN:=aa (jm (HH.o.below HC.o.gst.base) f hh (hs.below HC.o.gst.base) o zD);rw[show h.api o= .tuple #[.agg #[.int .i64 (h.hd (o/2)).size,.int .i64 (h.hd (o/2)).fmt,.int .i64 (h.hd (o/2)).spare,.int .u32 (h.hd (o/2)).cls,.int .u32 (h.hd (o/2)).ser],.int .i64 0] by unfold HM.api;rw[HO.o];rfl]at pN;unfold ptr at pN;generalize hX:h.hd (o/2)=X at*;have Bn:=aa hX;clear hX;gi_wp2_with fail;refine⟨trivial,(callsIn_wide.2 pN.o).mono ?_⟩;rintro e W1 ⟨rfl,hb1⟩;have Y5:=HM.apR f (o/2);rw[Bn.o]at Y5;have hx1:=Y5.size;have hx2:=Y5.fmt;have hx3:=Y5.spare;have SG:=Y5.ser;have hx4:=Y5.cls;have hf8:IntKind.u8.wrap (X.fmt:Int)=X.fmt:=(by rw[D7];omega);have hs8:IntKind.u8.wrap (X.spare:Int)=X.spare:=(by rw[D7];omega);have anE:IntKind.u64.wrap (X.size:Int)=X.size:=by rw[n_];omega
      gi_upto_region 14 with fail
      have hbX:Below W.heap.size W (W1.alloc (.cells #[.int .i64 X.size,.int .i64 X.fmt,.int .i64 X.spare,.int .u32 X.cls,.int .u32 X.ser] 75)):=hb1.alloc hb1.size _;have nD:=aa (HC.o.below hbX);have yS:=aa (yy.o.below hbX);have Bv:=aa (eW.new W1 75 #[.int .i64 X.size,.int .i64 X.fmt,.int .i64 X.spare,.int .u32 X.cls,.int .u32 X.ser]);clear HC yy hbX hb1 k0 k1 k2 hcell Up pN;generalize tC:iK l id fr++List.flatMap (h.apM ser l) (List.take i (eL l))=bs at*;have xq:=aa (show bs.length<=60000000000000 by
       rw[<-tC,ar];have h1:=pG (l:=l) (by have:=HW.o.1;omega) (f:=id) (xs:=fr) (fun x hx=>HX.o x hx);have h2:=HL.o;omega)
      have Wi:=aa tC;clear tC;generalize W1.heap.size=gX at*;generalize W1.alloc (.cells #[.int .i64 X.size,.int .i64 X.fmt,.int .i64 X.spare,.int .u32 X.cls,.int .u32 X.ser] 75)=W2 at*
      gi_cut [] from 61 (fun W'=>∃ vb',iP w gG mB gb (gb+1) (.pointer (some ⟨p.g,0,none⟩)) (.slice (some ad) l.length cm) vd l (bs++([X.fmt,X.spare]++fq X.size)) vb' W'/\gC w.heap.size ds W'/\eW W' gX 75 #[.int .i64 X.size,.int .i64 X.fmt,.int .i64 X.spare,.int .u32 X.cls,.int .u32 X.ser])
      case first=>
       refine wpIn_wide.2 ?_;refine iB 14 (fun w'=>w'.cell? ⟨gb+1,0,none⟩=some vb/\w'.cell? ⟨gX,0,none⟩=some (.int .i64 X.size)/\w'.cell? ⟨gX,1,none⟩=some (.int .i64 X.fmt)/\w'.cell? ⟨gX,2,none⟩=some (.int .i64 X.spare)) (by kernel_rfl) ?_;have jv:Below W2.heap.size W2 W2.drew:=⟨rfl,rfl,rfl,ah _,fun _ _=>rfl⟩;have nj:=aa (nD.o.below jv);have sX:=aa (yS.o.below jv);have mm:=aa (Bv.o.below jv Bv.o.lt);clear nD yS Bv jv;generalize W2.drew=W3 at*;have jc:=aa (show bs++[X.fmt,X.spare]++fq X.size=bs++([X.fmt,X.spare]++fq X.size) by simp);generalize [X.fmt,X.spare]++fq X.size=l9 at*;have rj:=aa (show ∀ w' v',fG W3 w' vb v'->(w'.cell? ⟨gb+1,0,none⟩=some vb/\w'.cell? ⟨gX,0,none⟩=some (.int .i64 X.size)/\w'.cell? ⟨gX,1,none⟩=some (.int .i64 X.fmt)/\w'.cell? ⟨gX,2,none⟩=some (.int .i64 X.spare)) from fun w' v' hg=>by
        have hx:w'.heap[gX]? = W3.heap[gX]? :=hg.far mm.o.lt (eU nj.o.own mm.o (by decide));exact⟨(nj.o.bb' hg).cell 0,(mm.o.same hx).cell 0,(mm.o.same hx).cell 1,(mm.o.same hx).cell 2⟩)
       have hS:=rj.o W3 vb (.refl _ _);obtain⟨i0,iF,hz0,hz1,hz2⟩:=info_parts kW;have hw3:w.heap.size<=W3.heap.size:=nj.o.gst.base.size;have agF:=xq.o;refine eT 0 (v:=vb) rfl (by kernel_rfl) (fun _ _ _ h=>h) hS (by rfl) (fun w' hw'=>by obtain⟨h0,h1,h2,h3⟩:=hw';go_simp) ?_;try simp only[ai,ae,af,ag]
       refine eT 1 (v:=.pointer (some ⟨gX,1,none⟩)) rfl (by kernel_rfl) (fun _ _ _ h=>h) hS (by rfl) (fun w' hw'=>by obtain⟨h0,h1,h2,h3⟩:=hw';go_simp) ?_;try simp only[ai,ae,af,ag]
       refine eT 2 (v:=.int .i64 (X.fmt:Int)) rfl (by kernel_rfl) (fun _ _ _ h=>h) hS (by rfl) (fun w' hw'=>by obtain⟨h0,h1,h2,h3⟩:=hw';go_simp) ?_;try simp only[ai,ae,af,ag]
       refine eT 3 (v:=.int .u8 (X.fmt:Int)) rfl (by kernel_rfl) (fun _ _ _ h=>h) hS (by rfl) (fun w' hw'=>by obtain⟨h0,h1,h2,h3⟩:=hw';go_simp) ?_;try simp only[ai,ae,af,ag]
       refine eT 4 (v:=.pointer (some ⟨gX,2,none⟩)) rfl (by kernel_rfl) (fun _ _ _ h=>h) hS (by rfl) (fun w' hw'=>by obtain⟨h0,h1,h2,h3⟩:=hw';go_simp) ?_;try simp only[ai,ae,af,ag]
       refine eT 5 (v:=.int .i64 (X.spare:Int)) rfl (by kernel_rfl) (fun _ _ _ h=>h) hS (by rfl) (fun w' hw'=>by obtain⟨h0,h1,h2,h3⟩:=hw';go_simp) ?_;try simp only[ai,ae,af,ag]
       refine eT 6 (v:=.int .u8 (X.spare:Int)) rfl (by kernel_rfl) (fun _ _ _ h=>h) hS (by rfl) (fun w' hw'=>by obtain⟨h0,h1,h2,h3⟩:=hw';go_simp) ?_;try simp only[ai,ae,af,ag]
       refine eT 9 (v:=.pointer (some ⟨gX,0,none⟩)) rfl (by kernel_rfl) (fun _ _ _ h=>h) hS (by rfl) (fun w' hw'=>by obtain⟨h0,h1,h2,h3⟩:=hw';go_simp) ?_;try simp only[ai,ae,af,ag]
       refine eT 10 (v:=.int .i64 (X.size:Int)) rfl (by kernel_rfl) (fun _ _ _ h=>h) hS (by rfl) (fun w' hw'=>by obtain⟨h0,h1,h2,h3⟩:=hw';go_simp) ?_;try simp only[ai,ae,af,ag]
       refine eT 11 (v:=.int .u64 (X.size:Int)) rfl (by kernel_rfl) (fun _ _ _ h=>h) hS (by rfl) (fun w' hw'=>by obtain⟨h0,h1,h2,h3⟩:=hw';go_simp) ?_;try simp only[ai,ae,af,ag]
       refine Pq 7 12 (by kernel_rfl) rfl rfl rfl rfl (fun K hK=>?_) (fun K hK=>?_)
       .go_simp;have G1:=fG.alloc (fG.refl W3 vb) (.cells #[.int .u8 (X.fmt:Int),.int .u8 (X.spare:Int)] 5);refine hK _ _ (fun _=>rj.o _ _ G1) ?_;clear hK K;try simp only[ai,ae,af,ag]
        refine Pq 8 12 (by kernel_rfl) rfl rfl rfl rfl (fun K hK=>?_) (fun K hK=>?_)
        .skip
         refine fS _ (.tmp 61) (.tmp 68) _ rfl w.heap.size 5 i0 _ 1 1 Tryz.underlying22 iF hz0 hz1 hz2 rfl (by omega) vb bs.length (fP bs) rfl (nj.o.own.alloc _) _ _ 2 2 (fP [X.fmt,X.spare]) rfl (vW (heap_alloc_new W3 _) (aG _)) (kX _) (by simp only[maxLen];omega) (by omega) (by simp;omega) ?_;intro v1 w5 fe jG j0;obtain⟨A5,c5,rfl,-⟩:=fF fe;rw[show fP bs++fP [X.fmt,X.spare]=fP (bs++[X.fmt,X.spare]) by simp[fP],show bs.length+2=(bs++[X.fmt,X.spare]).length by simp]at fe;have G5:=fG.append G1 jG j0;try dsimp only
         refine hK _ _ (fun _=>rj.o _ _ G5) ?_;clear hK K;try simp only[ai,ae,af,ag]
         refine fh 12 (by kernel_rfl) rfl rfl (fun K hK=>?_);go_simp;have G6:=fG.alloc G5 (.cells #[.int .u64 (X.size:Int)] 47);refine hK _ _ (fun _=>rj.o _ _ G6) ?_;clear hK K;try simp only[ai,ae,af,ag]
         refine fh 13 (by kernel_rfl) rfl rfl (fun K hK=>?_);go_simp;refine (lu (v:=.slice A5 (bs.length+2) c5) (bs:=bs++[X.fmt,X.spare]) (n:=bs.length+2) (by have:=fe.alloc (.cells #[.int .u64 (X.size:Int)] 47);simpa using this) _ 1 X.size (by omega) (mR (heap_alloc_new w5 _) (by simp)) (by omega) (by have:=nj.o.gst.base.size;have:=G6.size;omega)).mono ?_;rintro e w7 ⟨v',rfl,ia,zA⟩;obtain⟨A7,c7,rfl,-⟩:=fF ia;have G7:=G6.trans zA;generalize hcs:bs++[X.fmt,X.spare]++fq X.size=cs at*;try dsimp only
         have Cm:=nj.o.bb' G7;have k7:=Cm.cell 0;have z7:=Cm.frozen 0;refine hK _ _ (fun _=>rj.o _ _ G7) ?_;clear hK K;try simp only[ai,ae,af,ag]
         refine fh 14 (by kernel_rfl) rfl rfl (fun K hK=>?_);go_simp;refine hK _ _ (fun h=>absurd h (by decide)) ?_;clear hK K;try simp only[ai,ae,af,ag]
         refine g_ (by kernel_rfl) ?_ _;simp only[Calm,Exit.then]
         gi_step
         gi_meet
         exact⟨_,by rw[<-jc.o];exact nj.o.grow ia G7,nj.o.marks G7 _ sX.o,mm.o.same (nj.o.blk G7 _ mm.o (by decide) (by decide))⟩
        .go_simp;have G2:=fG.alloc G1 (.cells #[.int .u64 (X.size:Int)] 47);refine hK _ _ (fun _=>rj.o _ _ G2) ?_;clear hK K;try simp only[ai,ae,af,ag]
         refine fh 8 (by kernel_rfl) rfl rfl (fun K hK=>?_);refine fS _ (.tmp 61) (.tmp 68) _ rfl w.heap.size 5 i0 _ 1 1 Tryz.underlying22 iF hz0 hz1 hz2 rfl (by omega) vb bs.length (fP bs) rfl ((nj.o.own.alloc _).alloc _) _ _ 2 2 (fP [X.fmt,X.spare]) rfl (vW ((Below.heap_alloc _ _ _ (by simp)).trans (heap_alloc_new W3 _)) (aG _)) (kX _) (by simp only[maxLen];omega) (by omega) (by simp;omega) ?_;intro v1 w5 fe jG j0;obtain⟨A5,c5,rfl,-⟩:=fF fe;rw[show fP bs++fP [X.fmt,X.spare]=fP (bs++[X.fmt,X.spare]) by simp[fP],show bs.length+2=(bs++[X.fmt,X.spare]).length by simp]at fe;have G5:=fG.append G2 jG j0;try dsimp only
         have G6:=G5;refine hK _ _ (fun _=>rj.o _ _ G6) ?_;clear hK K;try simp only[ai,ae,af,ag]
         refine fh 13 (by kernel_rfl) rfl rfl (fun K hK=>?_);go_simp;refine (lu (v:=.slice A5 (bs.length+2) c5) (bs:=bs++[X.fmt,X.spare]) (n:=bs.length+2) (by simpa using fe) _ 1 X.size (by omega) (mR ((jG.block _ (by simp) (fun e=>by have:=(nj.o.own.lt _ e.symm).2;omega)).trans (by have:=heap_alloc_new (W3.alloc (.cells #[.int .u8 (X.fmt:Int),.int .u8 (X.spare:Int)] 5)) (.cells #[.int .u64 (X.size:Int)] 47);rw[ak]at this;exact this)) (by have:=jG.size;simp at this;omega)) (by omega) (by have:=nj.o.gst.base.size;have:=G6.size;omega)).mono ?_;rintro e w7 ⟨v',rfl,ia,zA⟩;obtain⟨A7,c7,rfl,-⟩:=fF ia;have G7:=G6.trans zA;generalize hcs:bs++[X.fmt,X.spare]++fq X.size=cs at*;try dsimp only
         have Cm:=nj.o.bb' G7;have k7:=Cm.cell 0;have z7:=Cm.frozen 0;refine hK _ _ (fun _=>rj.o _ _ G7) ?_;clear hK K;try simp only[ai,ae,af,ag]
         refine fh 14 (by kernel_rfl) rfl rfl (fun K hK=>?_);go_simp;refine hK _ _ (fun h=>absurd h (by decide)) ?_;clear hK K;try simp only[ai,ae,af,ag]
         refine g_ (by kernel_rfl) ?_ _;simp only[Calm,Exit.then]
         gi_step
         gi_meet
         exact⟨_,by rw[<-jc.o];exact nj.o.grow ia G7,nj.o.marks G7 _ sX.o,mm.o.same (nj.o.blk G7 _ mm.o (by decide) (by decide))⟩
       .go_simp;have G1:=fG.alloc (fG.refl W3 vb) (.cells #[.int .u64 (X.size:Int)] 47);refine hK _ _ (fun _=>rj.o _ _ G1) ?_;clear hK K;try simp only[ai,ae,af,ag]
        refine fh 7 (by kernel_rfl) rfl rfl (fun K hK=>?_);go_simp;have G2:=fG.alloc G1 (.cells #[.int .u8 (X.fmt:Int),.int .u8 (X.spare:Int)] 5);refine hK _ _ (fun _=>rj.o _ _ G2) ?_;clear hK K;try simp only[ai,ae,af,ag]
        refine fh 8 (by kernel_rfl) rfl rfl (fun K hK=>?_);refine fS _ (.tmp 61) (.tmp 68) _ rfl w.heap.size 5 i0 _ 1 1 Tryz.underlying22 iF hz0 hz1 hz2 rfl (by omega) vb bs.length (fP bs) rfl ((nj.o.own.alloc _).alloc _) _ _ 2 2 (fP [X.fmt,X.spare]) rfl (vW (by have:=heap_alloc_new (W3.alloc (.cells #[.int .u64 (X.size:Int)] 47)) (.cells #[.int .u8 (X.fmt:Int),.int .u8 (X.spare:Int)] 5);rw[ak]at this;exact this) (aG _)) (kX _) (by simp only[maxLen];omega) (by omega) (by simp;omega) ?_;intro v1 w5 fe jG j0;obtain⟨A5,c5,rfl,-⟩:=fF fe;rw[show fP bs++fP [X.fmt,X.spare]=fP (bs++[X.fmt,X.spare]) by simp[fP],show bs.length+2=(bs++[X.fmt,X.spare]).length by simp]at fe;have G5:=fG.append G2 jG j0;try dsimp only
        have G6:=G5;refine hK _ _ (fun _=>rj.o _ _ G6) ?_;clear hK K;try simp only[ai,ae,af,ag]
        refine fh 13 (by kernel_rfl) rfl rfl (fun K hK=>?_);go_simp;refine (lu (v:=.slice A5 (bs.length+2) c5) (bs:=bs++[X.fmt,X.spare]) (n:=bs.length+2) (by simpa using fe) _ 1 X.size (by omega) (mR ((jG.block _ (by simp;omega) (fun e=>by have:=(nj.o.own.lt _ e.symm).2;omega)).trans ((Below.heap_alloc _ _ _ (by simp)).trans (heap_alloc_new W3 _))) (by have:=jG.size;simp at this;omega)) (by omega) (by have:=nj.o.gst.base.size;have:=G6.size;omega)).mono ?_;rintro e w7 ⟨v',rfl,ia,zA⟩;obtain⟨A7,c7,rfl,-⟩:=fF ia;have G7:=G6.trans zA;generalize hcs:bs++[X.fmt,X.spare]++fq X.size=cs at*;try dsimp only
        have Cm:=nj.o.bb' G7;have k7:=Cm.cell 0;have z7:=Cm.frozen 0;refine hK _ _ (fun _=>rj.o _ _ G7) ?_;clear hK K;try simp only[ai,ae,af,ag]
        refine fh 14 (by kernel_rfl) rfl rfl (fun K hK=>?_);go_simp;refine hK _ _ (fun h=>absurd h (by decide)) ?_;clear hK K;try simp only[ai,ae,af,ag]
        refine g_ (by kernel_rfl) ?_ _;simp only[Calm,Exit.then]
        gi_step
        gi_meet
        exact⟨_,by rw[<-jc.o];exact nj.o.grow ia G7,nj.o.marks G7 _ sX.o,mm.o.same (nj.o.blk G7 _ mm.o (by decide) (by decide))⟩
      case rest=>
       clear nD yS Bv;obtain⟨vb2,C2,MK2,yI⟩:=hcut;have nD:=aa C2;have yS:=aa MK2;have Bv:=aa yI;have k0:=C2.bb.cell 0;obtain⟨x0,x1,x2,x3,x4⟩:=yI.apd;have hb2:=xq.o;have abA:=zf (x:=X.size) (by omega);have anC:IntKind.u64.wrap (X.ser:Int)=X.ser:=(by rw[n_];omega);clear C2 MK2 yI
       gi_upto_if 75 with fail
       gi_cut [] from 76 (fun W'=>∃ vb',iP w gG mB gb (gb+1) (.pointer (some ⟨p.g,0,none⟩)) (.slice (some ad) l.length cm) vd l (bs++([X.fmt,X.spare]++fq X.size++h.ap0 ser o)) vb' W'/\gC w.heap.size ds W'/\eW W' gX 75 #[.int .i64 X.size,.int .i64 X.fmt,.int .i64 X.spare,.int .u32 X.cls,.int .u32 X.ser])
       case first=>
        cases ser
        .have Oj:=aa (show h.ap0 false o=[] from rfl);gi_wp2_with fail
         gi_meet
         exact⟨vb2,by rw[Oj.o,a_];exact nD.o,yS.o,Bv.o⟩
        .have Oj:=aa (show h.ap0 true o=fq X.ser by unfold HM.ap0;rw[Bn.o];rfl);have agG:(bs++([X.fmt,X.spare]++fq X.size)).length<=60000000000100:=(by simp;omega);have jc:=aa (show bs++([X.fmt,X.spare]++fq X.size++h.ap0 true o)=(bs++([X.fmt,X.spare]++fq X.size))++fq X.ser by rw[Oj.o];simp);clear Oj;generalize KO:bs++([X.fmt,X.spare]++fq X.size)=b2 at*;clear KO;gi_wp2_with fail;have ME:=nD.o.gst.base.size;refine⟨trivial,(callsIn_wide.2 (lu (nD.o.own.alloc _) _ 1 X.ser (by omega) ⟨rfl,fun _=>⟨_,rfl,by simp,cell_one_new _ _ _⟩⟩ (by omega) (by simp;omega))).mono ?_⟩;rintro e w7 ⟨v',rfl,ia,zA⟩;obtain⟨A7,c7,rfl,-⟩:=fF ia;generalize hcs:b2++fq X.ser=cs at*;clear hcs;have G7:=fG.ap9 _ _ _ zA;have Cm:=nD.o.bb' G7;have k7:=Cm.cell 0;have z7:=Cm.frozen 0;have gN:=aa (And.intro (nD.o.grow ia G7) (And.intro (nD.o.marks G7 (.slice A7 cs.length c7) yS.o) (Bv.o.same (nD.o.blk G7 (.slice A7 cs.length c7) Bv.o (by decide) (by decide)))));clear ia zA G7 Cm k0 x0 x1 x2 x3 x4 nD yS Bv;gi_wp2_with fail
         gi_meet
         exact⟨_,by rw[jc.o];exact gN.o.1,gN.o.2⟩
       case rest=>
        clear nD yS Bv k0 x0 x1 x2 x3 x4;obtain⟨vb3,C3,MK3,OG⟩:=hcut;rw[show [X.fmt,X.spare]++fq X.size++h.ap0 ser o=h.apA ser o by unfold HM.apA;rw[Bn.o]]at C3;have nj:=aa C3;have sX:=aa MK3;have mm:=aa OG;have amg:(bs++h.apA ser o).length<=60000000000012:=(by have:=CP f ser o;rw[ar];omega);have Wh:=aa (show bs++h.apM ser l o=(bs++h.apA ser o)++iK l (h.ao_ o) (aD (h.nmN o))++h.apz o by unfold HM.apM;simp);generalize bs++h.apA ser o=b3 at*;clear C3 MK3 OG hb2 abA;gi_wp2_with fail;refine⟨trivial,(callsIn_wide.2 (sG p.g o wc)).mono ?_⟩;rintro e W4 ⟨rfl,rfl⟩;have oo:Below wc.heap.size wc ((wc.alloc (.cells #[.pointer (some ⟨p.g,0,none⟩)] 23)).alloc (.cells #[.int .u32 (o:Nat)] 54)):=((Below.refl _ _).alloc (ah _) _).alloc (by simp) _;have BH:=(eW.new wc 23 #[.pointer (some ⟨p.g,0,none⟩)]).alloc (.cells #[.int .u32 (o:Nat)] 54);have BO:=eW.new (wc.alloc (.cells #[.pointer (some ⟨p.g,0,none⟩)] 23)) 54 #[.int .u32 (o:Nat)];rw[ak]at BO;have SZ:=aa (nj.o.below oo);have BJ:=aa (sX.o.below oo);have Zw:=aa (mm.o.below oo mm.o.lt);have Oq:∀ D,({ target:=.collected D,args:=#[] }:Deferred)∈ds->D<wc.heap.size:=fun D hD=>by
         obtain⟨D',h1,_,h3⟩:=sX.o.at_ _ hD;injection h1 with h1;injection h1 with h1;subst h1;exact fA h3
        unfold ptr;generalize Sy:(wc.alloc (.cells #[.pointer (some ⟨p.g,0,none⟩)] 23)).alloc (.cells #[.int .u32 (o:Nat)] 54)=W4 at*;have Ze:W4.heap.size=wc.heap.size+2:=(by rw[<-Sy];simp);have ahh:mB<wc.heap.size:=nj.o.gst.graph.num.lt;have hw3:w.heap.size<=wc.heap.size:=nj.o.gst.base.size;generalize wc.heap.size=Bh at*;clear Sy oo nj sX mm;have Tv:=aa (show sZ W4 p h Bh (Bh+1) o from⟨HH.o.below SZ.o.gst.base,hs.below SZ.o.gst.base,BH.cell 0,BO.cell 0⟩);have hN:=zS f o (HM.aps hh HO.o);have Ve:=aa hN;have hl4:l.length<=4000000:=(by have:=HW.o.1;omega);gi_wp2_with fail
        refine wpIn_rangeFunc_ownH (F:=Fence.wide) rfl (by omega) (gf:=192) (lb:=#[.pointer (some ⟨Bh,0,none⟩),.pointer (some ⟨Bh+1,0,none⟩)]) rfl trivial (enters_of Tryz.func192 (by kernel_rfl) rfl)
         (rJ Tv.o f hh zD HO.o 5 (fun A B=>qT w.heap.size Bh (Bh+1) A B) (qT.need HH.o hs)) (fun a b=>qT.trans a b) (fun W l o o' h1 h2 h3 _=>qT.book W l o o' (by omega) (by omega) (by omega) h2 h3) (Below.refl _ _) (fun _=>rfl)
         (fun pre W=>∃ vb,iP w gG mB gb (gb+1) (.pointer (some ⟨p.g,0,none⟩)) (.slice (some ad) l.length cm) vd l (b3++iK l (h.ao_ o) pre) vb W/\gC w.heap.size ds W/\eW W gX 75 #[.int .i64 X.size,.int .i64 X.fmt,.int .i64 X.spare,.int .u32 X.cls,.int .u32 X.ser]/\eW W Bh 23 #[.pointer (some ⟨p.g,0,none⟩)]/\eW W (Bh+1) 54 #[.int .u32 (o:Nat)])
         (fun c pre W=>False)
         (fun pre A B row ⟨vb,h1,h2,h3,h4,h5⟩ hg hr=>⟨vb,h1.apw (by omega) (by omega) hg hr,h2.apw (fun D hD=>by have:=Oq D hD;omega) hg hr,ir h3 hg hr,ir h4 hg hr,ir h5 hg hr⟩)
         (fun c pre A B row h _ _=>h.elim)
         ⟨_,by have:=SZ.o;simpa[iK] using this,BJ.o,Zw.o,BH,BO⟩
         (fun x a' W=>a'={ tmps:=CN gb (h.ao_ o x) (fun n=>a'.tmps.toList.getD n undef),defers:=[] })
         (fun x a' _ X Y row hs hg hr=>hs)
         ?assign ?body ?done (fun D c pre W _ _ h=>h.elim)
        case assign=>
         rintro lp pre x W K hI hK;rw[show OA h o x=#[.int .i64 ((x:Int)-1),.int .u32 (h.ao_ o x:Nat)] from rfl];have HK:=aa hK;have Wz:=aa hI;clear hK hI;generalize h.ao_ o x=v at*;gi_wp2_with fail;exact HK.o _ _ ((aJ _).from _) ⟨rfl,rfl,rfl,ah _,fun _ _=>rfl,rfl,rfl,fun _ _ b=>b⟩ Wz.o rfl
        case body=>
         rintro lp pre x a' W hl ⟨r,hr⟩ ⟨vb,C,MK,BX,BH,BO⟩ ha Gl;have Yd:=HM.apL f o x;have wD:=aa (show b3++iK l (h.ao_ o) (pre++[x])=b3++iK l (h.ao_ o) pre++fq (ja l (h.ao_ o x)) by rw[J4,ay]);have amh:(b3++iK l (h.ao_ o) pre).length<=70000000000000:=by
          have h1:=pG hl4 (f:=h.ao_ o) (xs:=pre) (fun k _=>HM.apL f o k);rw[ar];omega
         generalize h.ao_ o x=v at*;generalize b3++iK l (h.ao_ o) pre=b4 at*;have hrf:=EU l v Yd hl4;generalize (fun n=>a'.tmps.toList.getD n undef)=g2 at ha;unfold CN at ha;subst ha;apply wpIn_block;refine iL 6 (fun w'=>w'.cell? ⟨gb+1,0,none⟩=some vb/\w'.cell? ⟨gb,0,none⟩=some (.pointer (some ⟨gG,0,none⟩))) (by kernel_rfl) (by kernel_rfl) ?_;have jv:Below W.heap.size W W.drew:=⟨rfl,rfl,rfl,ah _,fun _ _=>rfl⟩;have yr:=aa jv;have rf:=aa (C.below jv);have afg:=aa (MK.below jv);have Zx:=aa (BX.below jv BX.lt);have Wb:=aa (BH.below jv BH.lt);have We:=aa (BO.below jv BO.lt);have X2:Bh+1<W.heap.size:=BO.lt;have VT:w.heap.size<=W.heap.size:=C.gst.base.size;clear C MK BX BH BO jv;generalize W.drew=W7 at*;have hw7:w.heap.size<=W7.heap.size:=rf.o.gst.base.size;have hS:W7.cell? ⟨gb+1,0,none⟩=some vb/\W7.cell? ⟨gb,0,none⟩=some (.pointer (some ⟨gG,0,none⟩)):=⟨rf.o.bb.cell 0,rf.o.gst.box.cell 0⟩;refine eT 0 (v:=vb) rfl (by kernel_rfl) (fun _ _ _ h=>h) hS (by rfl) (fun w' hw'=>by obtain⟨h0,h1⟩:=hw';go_simp) ?_;try simp only[ai,ae,af,ag]
         refine eT 1 (v:=.pointer (some ⟨gG,0,none⟩)) rfl (by kernel_rfl) (fun _ _ _ h=>h) hS (by rfl) (fun w' hw'=>by obtain⟨h0,h1⟩:=hw';go_simp) ?_;try simp only[ai,ae,af,ag]
         refine eT 2 (v:=.int .u32 (v:Int)) rfl (by kernel_rfl) (fun _ _ _ h=>h) hS (by rfl) (fun w' hw'=>by obtain⟨h0,h1⟩:=hw';go_simp) ?_;try simp only[ai,ae,af,ag]
         refine fh 3 (by kernel_rfl) rfl rfl (fun K hK=>?_);go_simp;refine (tK rf.o.gst.graph v Yd hl4).mono ?_;rintro e w4 ⟨rfl,rfl⟩;try dsimp only
         refine hK _ _ (fun _=>hS) ?_;clear hK K;try simp only[ai,ae,af,ag]
         generalize ja l v=z at*;refine fh 4 (by kernel_rfl) rfl rfl (fun K hK=>?_);go_simp;refine hK _ _ (fun _=>⟨(aA W7 _ _ rf.o.bb.lt).trans hS.1,(aA W7 _ _ rf.o.gst.box.lt).trans hS.2⟩) ?_;clear hK K;try simp only[ai,ae,af,ag]
         refine fh 5 (by kernel_rfl) rfl rfl (fun K hK=>?_);go_simp;refine (lu (rf.o.own.alloc _) _ 1 z (by omega) ⟨rfl,fun _=>⟨_,rfl,by simp,cell_one_new _ _ _⟩⟩ (by omega) (by simp;omega)).mono ?_;rintro e w5 ⟨v',rfl,fe,p8⟩;obtain⟨A5,c5,rfl,-⟩:=fF fe;generalize hcs:b4++fq z=cs at*;replace p8:=fG.ap9 _ _ _ p8;have LB:=rf.o.bb' p8;have k5:=LB.cell 0;have z5:=LB.frozen 0
         have gN:=aa (show KeepsFrom W4.heap.size W (w5.setCell ⟨gb+1,0,none⟩ (.slice A5 cs.length c5))/\qT w.heap.size Bh (Bh+1) W (w5.setCell ⟨gb+1,0,none⟩ (.slice A5 cs.length c5))/\∃ vb,iP w gG mB gb (gb+1) (.pointer (some ⟨p.g,0,none⟩)) (.slice (some ad) l.length cm) vd l (b3++iK l (h.ao_ o) (pre++[x])) vb (w5.setCell ⟨gb+1,0,none⟩ (.slice A5 cs.length c5))/\gC w.heap.size ds (w5.setCell ⟨gb+1,0,none⟩ (.slice A5 cs.length c5))/\eW (w5.setCell ⟨gb+1,0,none⟩ (.slice A5 cs.length c5)) gX 75 #[.int .i64 X.size,.int .i64 X.fmt,.int .i64 X.spare,.int .u32 X.cls,.int .u32 X.ser]/\eW (w5.setCell ⟨gb+1,0,none⟩ (.slice A5 cs.length c5)) Bh 23 #[.pointer (some ⟨p.g,0,none⟩)]/\eW (w5.setCell ⟨gb+1,0,none⟩ (.slice A5 cs.length c5)) (Bh+1) 54 #[.int .u32 (o:Nat)] from
          ⟨(KeepsFrom.apa yr.o).trans (rf.o.keeps p8 _ _),(qT.apa yr.o VT (by omega) X2).trans (rf.o.kpG p8 _ Wb.o We.o),
            _,by rw[wD.o];exact rf.o.grow fe p8,rf.o.marks p8 _ afg.o,Zx.o.same (rf.o.blk p8 _ Zx.o (by decide) (by decide)),Wb.o.same (rf.o.blk p8 _ Wb.o (by decide) (by decide)),We.o.same (rf.o.blk p8 _ We.o (by decide) (by decide))⟩)
         try dsimp only
         refine hK _ _ (fun _=>⟨k5,?_⟩) ?_
         .exact (aH (p8.g.block gb rf.o.gst.box.lt (fun e=>eU rf.o.own rf.o.gst.box (by decide) e.symm))).trans hS.2
         clear hK K fe p8 LB;try simp only[ai,ae,af,ag]
         refine fh 6 (by kernel_rfl) rfl rfl (fun K hK=>?_);go_simp;refine hK _ _ (fun h=>absurd h (by decide)) ?_;clear hK K;try simp only[ai,ae,af,ag]
         refine g_ (by kernel_rfl) ?_ _;simp only[Calm,Exit.then];exact gN.o
        case done=>
         rintro D xs W hD rfl ⟨vb,C,MK,BX,BH,BO⟩ hK;have hN0:=Ve.o;have oF:=aa C;have BK:=aa (MK.cons (by omega) hK (fun D' KP=>by have:=Oq D' KP;omega));have OQ:=aa BX;have agF:(b3++iK l (h.ao_ o) (aD (h.nmN o))).length<=70000000000000:=by
          have h1:=pG hl4 (f:=h.ao_ o) (xs:=aD (h.nmN o)) (fun k _=>HM.apL f o k);rw[az]at h1;rw[ar];omega
         generalize b3++iK l (h.ao_ o) (aD (h.nmN o))=b5 at*;have k0:=C.bb.cell 0;obtain⟨x0,x1,x2,x3,x4⟩:=BX.apd;clear C MK BX BH BO hK hN Tv Oq SZ BJ Zw;by_cases h3:X.fmt=3
         .have e3:((X.fmt:Int) == 3)=true:=(by rw[h3];rfl);have S3:=aa (show h.apz o=h.cwB o X.size by unfold HM.apz;rw[Bn.o,if_pos h3]);have H3:=aa (show (h.hd (o/2)).fmt=3 by rw[Bn.o];exact h3);have ahF:X.size<=1048576:=(by have:=nJ f (HM.aps hh HO.o);rw[Bn.o]at this;exact this);have BM:=aa (show (h.hd (o/2)).size=X.size by rw[Bn.o]);clear h3;gi_wp2_with fail;clear k0 x0 x1 x2 x3 x4
          gi_loopw [99] (fun b wr=>∃ kk:Nat,kk<=X.size/\b= .int .i64 kk/\∃ vb,iP w gG mB gb (gb+1) (.pointer (some ⟨p.g,0,none⟩)) (.slice (some ad) l.length cm) vd l (b5++h.cwB o kk) vb wr/\gC w.heap.size ({ target:=.collected D,args:=#[] } :: ds) wr) (fun b _=>X.size-(intOf b).toNat)
          case atStart=>exact⟨0,by omega,rfl,_,by simpa[HM.cwB] using oF.o,BK.o⟩
          case round=>
           clear oF BK OQ;obtain⟨kk,CQ,rfl,vb,C,MK⟩:=hrel;by_cases hlk:kk<X.size
           .have uQ:=aa (DY (HH.o.below C.gst.base) f hh (hs.below C.gst.base) zD HO.o H3.o (k:=kk) (by rw[BM.o];exact hlk));have hfw:=HM.aqG f o kk;have wD:=aa (PO h o kk);have agG:(b5++h.cwB o kk).length<=80000000000000:=by
             have:=KH f o kk;rw[ar];omega
            have afA:=aa (show b5++h.cwB o (kk+1)=(b5++h.cwB o kk)++fq (fw h o kk) by rw[wD.o,ay]);clear wD;unfold ptr at uQ;have HC:=aa C;have yy:=aa MK;generalize b5++h.cwB o kk=b6 at*;generalize fw h o kk=y at*;have hwy:IntKind.u64.wrap (y:Int)=y:=(by rw[n_];omega);clear C MK;gi_wp2_with fail;refine⟨trivial,(callsIn_wide.2 uQ.o).mono ?_⟩;rintro e w6 ⟨rfl,jV⟩;have yt:=aa (HC.o.below jV);have O3:=aa (yy.o.below jV);have k0:=yt.o.bb.cell 0;have ahE:=yt.o.gst.base.size;clear jV uQ HC yy;gi_wp2_with fail;refine⟨trivial,(callsIn_wide.2 (lu (yt.o.own.alloc _) _ 1 y (by omega) ⟨rfl,fun _=>⟨_,rfl,by simp,cell_one_new _ _ _⟩⟩ (by omega) (by simp;omega))).mono ?_⟩;rintro e w7 ⟨v',rfl,ia,zA⟩;obtain⟨A7,c7,rfl,-⟩:=fF ia;generalize hcs:b6++fq y=cs at*;clear hcs;have G7:=fG.ap9 _ _ _ zA;have Cm:=yt.o.bb' G7;have k7:=Cm.cell 0;have z7:=Cm.frozen 0;have gN:=aa (And.intro (yt.o.grow ia G7) (yt.o.marks G7 (.slice A7 cs.length c7) O3.o));clear ia zA G7 Cm k0 yt O3;gi_wp2_with fail;go_roundw
            case rel=>exact⟨kk+1,by omega,by go_num,_,by rw[afA.o];exact gN.o.1,gN.o.2⟩
            case measure=>simp[intOf];omega
           .obtain rfl:kk=X.size:=(by omega);have HC:=aa C;have yy:=aa MK;clear C MK hlk CQ;gi_wp2_with fail;refine⟨l.length-(i+1),?qa,i+1,(i:Int)+1,{ target:=.collected D,args:=#[] } :: ds,vb,?qz,?qf,rfl,?qb,?qc,?qm⟩
            case qa=>have:=HJ.o;have:=tz.o;omega
            case qb=>have:=tz.o;omega
            case qz=>omega
            case qf=>rfl
            case qc=>rw[oV.o,<-ay,Wi.o,Wh.o,S3.o];exact HC.o
            case qm=>exact yy.o
         .have e3:((X.fmt:Int) == 3)=false:=(by simp;omega);by_cases h2:X.fmt=2
          .have e2:((X.fmt:Int) == 2)=true:=(by rw[h2];rfl);have H2:=aa (show (h.hd (o/2)).fmt=2 by rw[Bn.o];exact h2);have S3:=aa (show h.apz o=h.apO o by unfold HM.apz;rw[Bn.o,if_neg h3,if_pos h2]);have wC:=aa (wL (HH.o.below oF.o.gst.base) f hh (hs.below oF.o.gst.base) o zD);clear h2 h3;unfold ptr at wC;gi_wp2_with fail;refine⟨trivial,(callsIn_wide.2 wC.o).mono ?_⟩;rintro e w6 ⟨jV,hby⟩;rw[if_pos (xF G HO.o H2.o)]at hby
           obtain⟨gy,cy,rfl,hrow,hgy⟩:=hby
           have uN:=aa (uW hrow (nI G HO.o H2.o));have yt:=aa (oF.o.below jV);have O3:=aa (BK.o.below jV);have k0:=yt.o.bb.cell 0;have ahE:=yt.o.gst.base.size;have Fa:=zb f (HM.aps hh HO.o);have hlen:(h.apO o).length=(h.hd (o/2)).len:=by
            unfold HM.apO;rw[aY];have:=nI G HO.o H2.o;omega
           rw[show (fg (h.fields o)).take (h.hd (o/2)).len=h.apO o from rfl]at uN;obtain⟨i0,iF,hz0,hz1,hz2⟩:=info_parts kW;clear jV wC oF BK x0 x1 x2 x3 x4 hrow hgy;generalize (h.hd (o/2)).len=nL at*;generalize h.apO o=bL at*
           gi_upto_region 30 with fail
           refine wpIn_wide.2 ?_;go_wp2_with (at_builtin;refine eM _ rfl (.tmp 123) (.tmp 124) _ rfl w.heap.size 5 i0 _ 1 1 Tryz.underlying22 iF hz0 hz1 hz2 rfl (by omega) vb b5.length _ rfl yt.o.own w6.heap.size (some ⟨gy,0,none⟩) nL nL (fP bL) rfl uN.o (kX _) (by simp only[maxLen];omega) (by omega) (by omega) ?_;intro v7 w7 ia Qh PZ;obtain⟨A7,c7,rfl,-⟩:=fF ia;have G7:=fG.of Qh PZ;have Cm:=yt.o.bb' G7;have k7:=Cm.cell 0;have z7:=Cm.frozen 0);rw[show fP b5++fP bL=fP (b5++bL) by simp[fP],show b5.length+nL=(b5++bL).length by rw[ar,hlen]]at ia;rw[show b5.length+nL=(b5++bL).length by rw[ar,hlen]]at G7 ⊢;have gN:=aa (And.intro (yt.o.grow ia G7) (yt.o.marks G7 (.slice A7 (b5++bL).length c7) O3.o));clear ia Qh PZ G7 Cm k7 z7 k0 yt O3 uN;generalize hcs:b5++bL=cs at*;gi_wp2_with fail;refine⟨l.length-(i+1),?qa,i+1,(i:Int)+1,{ target:=.collected D,args:=#[] } :: ds,.slice A7 cs.length c7,?qz,?qf,rfl,?qb,?qc,?qm⟩
           case qa=>have:=HJ.o;have:=tz.o;omega
           case qb=>have:=tz.o;omega
           case qz=>omega
           case qf=>rfl
           case qc=>rw[oV.o,<-ay,Wi.o,Wh.o,S3.o,hcs];exact gN.o.1
           case qm=>exact gN.o.2
          .have e2:((X.fmt:Int) == 2)=false:=(by simp;omega);have S3:=aa (show h.apz o=[] by unfold HM.apz;rw[Bn.o,if_neg h3,if_neg h2]);clear h2 h3;gi_wp2_with fail;refine⟨l.length-(i+1),?qa,i+1,(i:Int)+1,{ target:=.collected D,args:=#[] } :: ds,vb,?qz,?qf,rfl,?qb,?qc,?qm⟩
           case qa=>have:=HJ.o;have:=tz.o;omega
           case qb=>have:=tz.o;omega
           case qz=>omega
           case qf=>rfl
           case qc=>rw[oV.o,<-ay,Wi.o,Wh.o,S3.o,a_];exact oF.o
           case qm=>exact BK.o
     .have hd:decide ((i:Int)<(l.length:Int))=false:=(by simp;omega);obtain rfl:i=l.length:=(by omega);gi_wp2_with fail;refine jI (B:=w.heap.size) _ _ yy.o (fun w' e1 e2 e3 e4 e5=>?_);refine⟨.tuple #[vb,.int .i64 0],by simp[results,Tryz.results55,go_sem],?_⟩;refine⟨pV HC.o.gst.base yy.o e1 e2 e3 e4 e5,.inr (.inr ⟨hf,l,vb,HMM.o,HW.o,rfl,?_⟩)⟩;have:=HC.o.own;rw[aM (by rw[fI];exact ah _)]at this;exact fB this (fun q hq=>e5 q (this.lt q hq).2 (fun D hD e=>by
       obtain⟨D',h1,_,h3⟩:=yy.o.at_ _ hD;injection h1 with h1;injection h1 with h1;subst h1;subst e;obtain⟨o',l_,hc'⟩:=iM this hq;rw[l_]at h3;injection h3 with h3;subst h3;cases hc'))
end
section
open Go.RowKit Go.Maps Go.Sort
attribute [local go_sem] Oper.semAt_some
def OJ (W0:World)(x:PA)(d:Df)(e:Ending)(w':World):Prop:=
 e= .returned (.tuple #[])/\Below W0.heap.size W0 w'/\lr w' x.gP d
def KJ (gP:Nat)(A1:Option Addr)(n c1:Nat)(A2:Option Addr)(c2:Nat)(ser:Bool)(bP bI:Nat)(g:Nat->Value):Array Value:=
 #[.pointer (some ⟨gP,0,none⟩),.slice A1 n c1,.slice A2 n c2,.bool ser,.pointer (some ⟨bP,0,none⟩),g 5,g 6,g 7,g 8,.pointer (some ⟨bI,0,none⟩),g 10,g 11,g 12,g 13,g 14,g 15,g 16,g 17,g 18,g 19,g 20,g 21,g 22,g 23,g 24,g 25,g 26,g 27,g 28,g 29,g 30,g 31,g 32,g 33,g 34,g 35,g 36,g 37,g 38,g 39,g 40,g 41,g 42,g 43,g 44,g 45,g 46,g 47,g 48,g 49,g 50,g 51,g 52,g 53,g 54,g 55,g 56,g 57,g 58,g 59,g 60,g 61,g 62,g 63,g 64,g 65,g 66,g 67,g 68,g 69,g 70,g 71,g 72,g 73,g 74,g 75,g 76,g 77,g 78,g 79,g 80,g 81,g 82,g 83,g 84,g 85,g 86,g 87,g 88,g 89,g 90,g 91,g 92,g 93,g 94,g 95,g 96,g 97,g 98,g 99,g 100,g 101,g 102,g 103,g 104,g 105,g 106,g 107,g 108,g 109,g 110,g 111,g 112]
def FU (bO v:Nat)(g:Nat->Value):Array Value:=
 #[g 0,g 1,g 2,g 3,g 4,g 5,g 6,g 7,g 8,g 9,.pointer (some ⟨bO,0,none⟩),g 11,.int .u32 (v:Int),g 13,g 14,g 15,g 16,g 17,g 18,g 19,g 20,g 21,g 22,g 23,g 24,g 25,g 26,g 27,g 28,g 29,g 30,g 31,g 32,g 33,g 34,g 35,g 36,g 37,g 38,g 39,g 40,g 41,g 42,g 43,g 44,g 45,g 46,g 47,g 48,g 49,g 50,g 51,g 52,g 53,g 54,g 55,g 56,g 57,g 58,g 59,g 60,g 61,g 62,g 63,g 64,g 65,g 66,g 67,g 68,g 69,g 70,g 71,g 72,g 73,g 74,g 75,g 76,g 77,g 78,g 79,g 80,g 81,g 82,g 83,g 84,g 85,g 86,g 87,g 88,g 89,g 90,g 91,g 92,g 93,g 94,g 95,g 96,g 97,g 98,g 99,g 100,g 101,g 102,g 103,g 104,g 105,g 106,g 107,g 108,g 109,g 110,g 111,g 112]
def FV (bP bI bO:Nat)(f:Int)(v:Nat)(g:Nat->Value):Array Value:=
 #[g 0,g 1,g 2,g 3,.pointer (some ⟨bP,0,none⟩),g 5,g 6,g 7,g 8,.pointer (some ⟨bI,0,none⟩),.pointer (some ⟨bO,0,none⟩),g 11,g 12,.int .i64 f,.int .u32 (v:Int),g 15,g 16,g 17,g 18,g 19,g 20,g 21,g 22,g 23,g 24,g 25,g 26,g 27,g 28,g 29,g 30,g 31,g 32,g 33,g 34,g 35,g 36,g 37,g 38,g 39,g 40,g 41,g 42,g 43,g 44,g 45,g 46,g 47,g 48,g 49,g 50,g 51,g 52,g 53,g 54,g 55,g 56,g 57,g 58,g 59,g 60,g 61,g 62,g 63,g 64,g 65,g 66,g 67,g 68,g 69,g 70,g 71,g 72,g 73,g 74,g 75,g 76,g 77,g 78,g 79,g 80,g 81,g 82,g 83,g 84,g 85,g 86,g 87,g 88,g 89,g 90,g 91,g 92,g 93,g 94,g 95,g 96,g 97,g 98,g 99,g 100,g 101,g 102,g 103,g 104,g 105,g 106,g 107,g 108,g 109,g 110,g 111,g 112]
theorem ng {w w':World}{ad:Addr}{u:Value}(hc:w.cell? ad=some u)(hk:∀ (k:Nat) (cs:Array Value) (t:TypeId) (fr:Nat × Nat),w.heap[k]? = some (Obj.cells cs t fr)->w'.heap[k]? = some (Obj.cells cs t fr)):w'.cell? ad=some u:=by
 have hb:=au _ _ hc
 cases ho:w.heap[ad.block]? with
 | none=>simp[br,ho]at hc
 | some o=>cases o with
   | cells cs t fr=>exact (aH (a:=ad) ((hk _ cs t fr ho).trans ho.symm)).trans hc
   | _=>simp[br,ho]at hc
theorem lr.keep {w w':World}{gP:Nat}{d:Df}(h:lr w gP d)(hs:w.heap.size<=w'.heap.size)(hk:∀ (k:Nat) (cs:Array Value) (t:TypeId) (fr:Nat × Nat),w.heap[k]? = some (Obj.cells cs t fr)->w'.heap[k]? = some (Obj.cells cs t fr)):lr w' gP d:=by
 obtain⟨h1,⟨A,c,h2,⟨h3,h4⟩,h6⟩,h5⟩:=h;refine⟨ng h1 hk,⟨A,c,ng h2 hk,⟨h3,fun hn=>?_⟩,h6⟩,ng h5 hk⟩;obtain⟨ad,e,hb,hc⟩:=h4 hn;exact⟨ad,e,aw hb hs,fun j u hu=>ng (hc j u hu) hk⟩
theorem lr.apw {w w':World}{gP B:Nat}{d:Df}{row:Option Nat}(h:lr w gP d)(hg:w.grownBy w' row)(hr:∀ r,row=some r->B<=r/\∃ o:Obj,w.heap[r]? = some o/\o.isCells=false):lr w' gP d:=
 h.keep hg.size fun k cs t fr ho=>(hg.block k (fA ho) (fun e=>by
  obtain⟨_,o,l_,hc⟩:=hr k e.symm;rw[ho]at l_;injection l_ with l_;subst l_;cases hc)).trans ho
theorem IX {W0 w w':World}{B:Nat}{row:Option Nat}(hb:Below W0.heap.size W0 w)(h0:W0.heap.size<=B)(hg:w.grownBy w' row)(hr:∀ r,row=some r->B<=r/\∃ o:Obj,w.heap[r]? = some o/\o.isCells=false):Below W0.heap.size W0 w':=
 ⟨hg.os.trans hb.os,hg.tape.trans hb.tape,hg.output.trans hb.output,Nat.le_trans hb.size hg.size,fun k hk=>(hg.block k (aw hk hb.size) (fun e=>by have:=(hr k e.symm).1;omega)).trans (hb.block k hk)⟩
theorem xo {W0 w w':World}{x:PA}{d:Df}{ds:List Deferred}(hb:Below W0.heap.size W0 w)(h:lr w x.gP d)(M:gC W0.heap.size ds w)(h1:w'.os=w.os)(h2:w'.tape=w.tape)(h3:w'.output=w.output)(hs:w'.heap.size=w.heap.size)
 (hk:∀ k,k<w.heap.size->(∀ D,({ target:=.collected D,args:=#[] }:Deferred)∈ds->k≠D)->w'.heap[k]? = w.heap[k]?):OJ W0 x d (.returned (.tuple #[])) w':=
 ⟨rfl,pV hb M h1 h2 h3 hs hk,h.keep (by omega) fun k cs t fr ho=>(hk k (fA ho) fun D hD e=>by
   obtain⟨D',e1,_,h4⟩:=M.at_ _ hD;injection e1 with e1;injection e1 with e1;subst e1;subst e;rw[ho]at h4;cases h4).trans ho⟩
theorem Hx {g h:HM}{W0 W w9:World}{x:PA}{bP:Nat}{kU kV:Value}{r2:kI}{t0 t1 t2:Value}{l2 m2:List Nd}{EQ:List Value}(S:oW W0 x bP kU kV r2 t0 t1 t2 l2 m2 EQ W)(hb:Below W.heap.size W w9){gq cq:Nat}{path:List Int}{f:Int}
 (hrow:Row w9 gq 3 cq (jE (path++[f])))(hgq:W.heap.size<=gq)(XX:∀ y∈eL l2,g.isB y=true)(hk2:∀ y∈eL m2,h.isB y=true)(v u:Nat)(hv:v<4294967296)(hu:u<4294967296)(hpl:path.length<=9000000)(S2:Side l2 m2)(i:Nat)(hi:i<l2.length)
 (tG:fQ l2 i=path)(Mw:l2.length<=4000000):Calls Tryz.prog 245 #[.pointer (some ⟨x.gP,0,none⟩),.int .u32 v,.int .u32 u,.slice (some ⟨gq,0,none⟩) (path.length+1) cq] w9 (Kz W0.heap.size x kU kV r2 t0 t1 t2 l2 m2 EQ v u (i:Int) f (path++[f]) w9):=by
 have hx1:¬ x.has gq:=fun e=>by
  rcases e with e|e|e|e|e
  .have:=S.pr.box.lt;omega
  .have:=S.pr.ga.box.lt;omega
  .have:=S.pr.ga.num.lt;omega
  .have:=S.pr.gb.box.lt;omega
  .have:=S.pr.gb.num.lt;omega
 have hr1:¬ r2.has gq:=fun e=>by have:=(S.pr.aqj e).2;omega
 have tH:=hrow.reads hrow.lt;rw[jf,ar,show [f].length=1 from rfl]at tH;exact A_ (c:=cq) (S.below hb).pr (fun y hy=>oZ (XX y hy)) (fun y hy=>oZ (hk2 y hy)) v u hv hu tH (by omega) (by omega) hx1 hr1 S2 (i:Int) f (by omega) (by rw[if_neg (by omega),show ((i:Int)).toNat=i by omega,tG]) Mw
theorem E2 {w:World}{B:Nat}{x:PA}{kU kV:Value}{r:kI}{l m lw:List Nd}{ps:List Value}{kd at_ g c:Nat}{path:List Int}(P:na w B x kU kV r (.int .i64 kd) (.slice (some ⟨g,0,none⟩) path.length c) (.int .i64 at_) l m lw ps)(hr:Row w g 3 c (jE path))(hg:x.gP<g):
 lr w x.gP ⟨kd,path,at_⟩:=by
 refine⟨P.box.cell 3,⟨_,c,P.box.cell 4,?_,fun ad e=>by injection e with e;subst e;exact hg,by obtain⟨_,_,h2,_⟩:=hr;rw[jf]at h2;exact h2⟩,P.box.cell 5⟩;have:=hr.reads hr.lt;rw[jf]at this;exact this
theorem Mj {W0 w:World}{x:PA}{p q:HP}{g h:HM}{lg lh:List Ob}{r:kI}(base:Below W0.heap.size W0 w)(P:na w W0.heap.size x (.pointer (some ⟨p.g,0,none⟩)) (.pointer (some ⟨q.g,0,none⟩)) r (.int .i64 0) (.slice none 0 0) (.int .i64 0) [] [] [] [])
 (HA:fO W0 p g)(GA:g.Good lg)(HB:fO W0 q h)(GB:h.Good lh)(sp:eX W0)(ser:Bool)(A1 A2:Option Addr)(n c1 c2:Nat)(a b:List Nat)(hn:n<=9223372036854775807)(Oy:eQ W0 W0.heap.size 1 A1 n (eN a))(K3:eQ W0 W0.heap.size 1 A2 n (eN b))
 (BV:∀ y∈a,y<4294967296)(B5:∀ y∈b,y<4294967296)(Ot:g.apn a=true)(Jl:h.apn b=true)(L:List Nd)(hL:f_ g.nmN g.ao_ a=some L)(alX:L.length<=65536):
 Calls Tryz.prog 188 #[.pointer (some ⟨x.gP,0,none⟩),.slice A1 n c1,.slice A2 n c2,.bool ser] w (OJ W0 x (mY g.nmN g.ao_ h.ao_ (g.odM h ser) a b)):=by
 have vk:a.length=n:=by have:=Oy.1;rw[eY]at this;omega
 have Fa:b.length=n:=by have:=K3.1;rw[eY]at this;omega
 have ZZ:=aa vk;have Sn:=aa Fa;have HRA:=aa Oy;have HRB:=aa K3;have HXA:=aa BV;have HXB:=aa B5;have Oc:=aa Ot;have jC:=aa Jl;have Td:=aa HA;have Od:=aa HB;have yR:=aa hL;have Ji:Below w.heap.size w (w.alloc (.cells #[.pointer (some ⟨x.gP,0,none⟩)] 286)):=(Below.refl _ _).alloc (ah _) _
 have xt:=aa (show oW W0 x w.heap.size (.pointer (some ⟨p.g,0,none⟩)) (.pointer (some ⟨q.g,0,none⟩)) r (.int .i64 0) (.slice none 0 0) (.int .i64 0) [] [] [] (w.alloc (.cells #[.pointer (some ⟨x.gP,0,none⟩)] 286)) from
  ⟨base.alloc base.size _,P.below Ji,eW.new w _ _⟩)
 have hbP:W0.heap.size<=w.heap.size:=base.size;clear vk Fa Oy K3 BV B5 Ot Jl HA HB hL Ji P base;refine (callsIn_wide (n:=6)).1 ?_;refine callsIn_of_wp_marks Tryz.func188 rfl trivial ?_ rfl;simp only[Tryz.ntmps188,aU,aF,aZ,bp,bq,aN,aO,aV,aQ,a8,aX];gi_wp2_with fail;generalize w.heap.size=bP at*;generalize w.alloc (.cells #[.pointer (some ⟨x.gP,0,none⟩)] 286)=w2 at*
 gi_loopw [17] (fun iv wr=>∃ k:Nat,k<=n/\iv= .int .i64 k/\∃ l m r' ps,gO a b k= .on l m/\(∀ y∈eL l,g.isB y=true)/\(∀ y∈eL m,h.isB y=true)/\oW W0 x bP (.pointer (some ⟨p.g,0,none⟩)) (.pointer (some ⟨q.g,0,none⟩)) r' (.int .i64 0) (.slice none 0 0) (.int .i64 0) l m ps wr) (fun iv _=>n-(intOf iv).toNat)
 case atStart=>exact⟨0,by omega,rfl,[],[],r,[],rfl,fun y hy=>by simp[eL]at hy,fun y hy=>by simp[eL]at hy,xt.o⟩
 case round=>
  clear xt;obtain⟨k,hk,rfl,l,m,r',ps,jv,Mt,Ou,S⟩:=hrel;have yr:=aa jv;have Vc:=aa Mt;have Wy:=aa Ou;have HS:=aa S;clear Mt Ou S jv;by_cases hlt:k<n
  .obtain⟨TK,u1,rfl,abr,hx1,SH⟩:=(HRA.o.below HS.o.base).at_ hlt;obtain⟨Xs,u2,rfl,abt,hx2,Yj⟩:=(HRB.o.below HS.o.base).at_ hlt;rw[ft (by rw[ZZ.o];exact hlt)]at hx1;rw[ft (by rw[Sn.o];exact hlt)]at hx2;injection hx1 with hx1;injection hx2 with hx2;subst hx1;subst hx2;have xH:a.getD k 0∈a:=by
    rw[aj,aq (by rw[ZZ.o];exact hlt)];exact ax _
   have wy:b.getD k 0∈b:=by
    rw[aj,aq (by rw[Sn.o];exact hlt)];exact ax _
   have MG:=HXA.o _ xH;have Yb:=HXB.o _ wy;have HVA:=aa (fun hk2=>uZ Oc.o (a.getD k 0) xH hk2);have HVB:=aa (fun hk2=>uZ jC.o (b.getD k 0) wy hk2);have Ol:=aa (mL yr.o);have Mw:l.length<=2097152:=om GA.fit Ol.o.ndl Vc.o;have HON:=aa (fun hp=>wK yr.o hp);have Tq:=aa (fun hp=>IQ yr.o hp);clear xH wy;generalize a.getD k 0=v at*;generalize b.getD k 0=u at*;have hkb:k<9223372036854775807:=by omega
   gi_upto_region 4 with fail
   refine wpIn_wide.2 ?_;refine iB 11 (fun w'=>w'.cell? ⟨bP,0,none⟩=some (.pointer (some ⟨x.gP,0,none⟩))/\w'.cell? (TK.add k)=some (.int .u32 (v:Int))/\w'.cell? (Xs.add k)=some (.int .u32 (u:Int))) (by kernel_rfl) ?_;have jv:Below wr.heap.size wr wr.drew:=ib (Below.refl _ _);have qI:=aa (HS.o.below jv);replace SH:wr.drew.cell? (TK.add k)=some (.int .u32 (v:Int)):=SH;replace Yj:wr.drew.cell? (Xs.add k)=some (.int .u32 (u:Int)):=Yj;clear HS jv;generalize wr.drew=w3 at*;have hS:w3.cell? ⟨bP,0,none⟩=some (.pointer (some ⟨x.gP,0,none⟩))/\w3.cell? (TK.add k)=some (.int .u32 (v:Int))/\w3.cell? (Xs.add k)=some (.int .u32 (u:Int)):=⟨qI.o.box.cell 0,SH,Yj⟩;refine fW 0 [11] (v:=.pointer (some ⟨x.gP,0,none⟩)) rfl (by kernel_rfl) (fun _ _ _ h=>h) hS (by rfl) (fun w' hw'=>by obtain⟨h0,h1,h2⟩:=hw';go_simp) ?_;try simp only[ai,ae,af,ag]
   refine fW 1 [3,4,11] (v:=.slice (some TK) n c1) rfl (by kernel_rfl) (fun _ _ _ h=>h) hS (by rfl) (fun w' hw'=>by obtain⟨h0,h1,h2⟩:=hw';go_simp) ?_;try simp only[ai,ae,af,ag]
   refine fW 2 [3,4,11] (v:=.int .i64 (k:Int)) rfl (by kernel_rfl) (fun _ _ _ h=>h) hS (by rfl) (fun w' hw'=>by obtain⟨h0,h1,h2⟩:=hw';go_simp) ?_;try simp only[ai,ae,af,ag]
   refine fW 3 [4,11] (v:=.pointer (some (TK.add k))) rfl (by kernel_rfl) (fun _ _ _ h=>h) hS (by rfl) (fun w' hw'=>by obtain⟨h0,h1,h2⟩:=hw';go_simp) ?_;try simp only[ai,ae,af,ag]
   refine fW 4 [11] (v:=.int .u32 (v:Int)) rfl (by kernel_rfl) (fun _ _ _ h=>h) hS (by rfl) (fun w' hw'=>by obtain⟨h0,h1,h2⟩:=hw';go_simp) ?_;try simp only[ai,ae,af,ag]
   refine fW 5 [7,8,11] (v:=.slice (some Xs) n c2) rfl (by kernel_rfl) (fun _ _ _ h=>h) hS (by rfl) (fun w' hw'=>by obtain⟨h0,h1,h2⟩:=hw';go_simp) ?_;try simp only[ai,ae,af,ag]
   refine fW 6 [7,8,11] (v:=.int .i64 (k:Int)) rfl (by kernel_rfl) (fun _ _ _ h=>h) hS (by rfl) (fun w' hw'=>by obtain⟨h0,h1,h2⟩:=hw';go_simp) ?_;try simp only[ai,ae,af,ag]
   refine fW 7 [8,11] (v:=.pointer (some (Xs.add k))) rfl (by kernel_rfl) (fun _ _ _ h=>h) hS (by rfl) (fun w' hw'=>by obtain⟨h0,h1,h2⟩:=hw';go_simp) ?_;try simp only[ai,ae,af,ag]
   refine fW 8 [11] (v:=.int .u32 (u:Int)) rfl (by kernel_rfl) (fun _ _ _ h=>h) hS (by rfl) (fun w' hw'=>by obtain⟨h0,h1,h2⟩:=hw';go_simp) ?_;try simp only[ai,ae,af,ag]
   refine fW 9 [10,11] (v:=.int .i64 (k:Int)) rfl (by kernel_rfl) (fun _ _ _ h=>h) hS (by rfl) (fun w' hw'=>by obtain⟨h0,h1,h2⟩:=hw';go_simp) ?_;try simp only[ai,ae,af,ag]
   refine fh 10 (by kernel_rfl) rfl rfl (fun K hK=>?_);go_simp;have Ji:=(Below.refl w3.heap.size w3).alloc (ah _) (.cells #[.int .i64 (k:Int)] 3);refine hK _ _ (fun _=>⟨(qI.o.below Ji).box.cell 0,(Ji.cell (au _ _ hS.2.1)).trans hS.2.1,(Ji.cell (au _ _ hS.2.2)).trans hS.2.2⟩) ?_;clear hK K;try simp only[ai,ae,af,ag]
   have xu:=aa (qI.o.below Ji);have Z_:=aa (show ¬ x.has w3.heap.size/\¬ r'.has w3.heap.size from⟨fun e=>by
    rcases e with e|e|e|e|e
    .have:=qI.o.pr.box.lt;omega
    .have:=qI.o.pr.ga.box.lt;omega
    .have:=qI.o.pr.ga.num.lt;omega
    .have:=qI.o.pr.gb.box.lt;omega
    .have:=qI.o.pr.gb.num.lt;omega,fun e=>by have:=(qI.o.pr.aqj e).2;omega⟩)
   have HVL:=aa (A_ (c:=1) xu.o.pr (fun y hy=>oZ (Vc.o y hy)) (fun y hy=>oZ (Wy.o y hy)) v u MG Yb (show eQ (w3.alloc (.cells #[.int .i64 (k:Int)] 3)) (w3.alloc (.cells #[.int .i64 (k:Int)] 3)).heap.size 1 (some ⟨w3.heap.size,0,none⟩) 1 (jE [(k:Int)]) from⟨rfl,fun _=>⟨_,rfl,by simp,cell_one_new _ _ _⟩⟩) (by omega) (by omega) Z_.o.1 Z_.o.2 Ol.o (-1) (k:Int) (by omega) rfl (by omega));refine fh 11 (by kernel_rfl) rfl rfl (fun K hK=>?_);go_simp;refine HVL.o.mono ?_;rintro e w5 (⟨Gp,rfl,r5,ps5,P5,s5⟩|⟨Gp,hD⟩)
   .have nG:=aa (xu.o.step P5 s5);clear P5 s5 HVL;try dsimp only
    refine hK _ _ (fun h=>absurd h (by decide)) ?_;clear hK K;try simp only[ai,ae,af,ag]
    refine g_ (by kernel_rfl) ?_ _;simp only[Calm,Exit.then];gi_wp2_with fail;go_roundw
    case rel=>exact⟨k+1,by omega,by go_num,_,_,r5,ps5,HON.o Gp,my Vc.o HVA.o _ _ _,my Wy.o HVB.o _ _ _,nG.o⟩
    case measure=>simp[intOf];omega
   .obtain⟨rfl,s5,gD,cD,P5,jr,hgD⟩:=hD
    have gN:=aa (show Below W0.heap.size W0 w5/\lr w5 x.gP (mY g.nmN g.ao_ h.ao_ (g.odM h ser) a b) from⟨xu.o.base' s5,by
     unfold mY;rw[IR (Tq.o Gp) a.length (by rw[ZZ.o];omega)];exact E2 P5 jr (aw xu.o.pr.box.lt hgD)⟩)
    clear P5 s5 HVL jr;try dsimp only
    refine hK _ _ (fun h=>absurd h (by decide)) ?_;clear hK K;try simp only[ai,ae,af,ag]
    refine g_ (by kernel_rfl) ?_ _;simp only[Calm,Exit.then];gi_wp2_with fail;refine⟨.tuple #[],by simp[results,Tryz.results188,go_sem],?_⟩;exact⟨rfl,gN.o⟩
  .obtain rfl:k=n:=(by omega);clear hk hlt;have HB:=aa (xz yr.o);have Ol:=aa (mL yr.o);have yu:=aa (show mY g.nmN g.ao_ h.ao_ (g.odM h ser) a b=nR g.nmN g.ao_ h.ao_ (g.odM h ser) ve 0 l m by unfold mY;rw[ZZ.o,yr.o]);have YG:=aa (mE yR.o);have HLP:=aa (fun i hi=>iN (i:=i) yR.o hi);have VC:=(Below.refl wr.heap.size wr).alloc (ah _) (.cells #[.int .i64 0] 3);have nE:=aa (HS.o.below VC);have Z_:=aa (show ¬ r'.has wr.heap.size from fun e=>by have:=(HS.o.pr.aqj e).2;omega);clear VC;gi_wp2_with fail
   refine r8 (fun j a' W=>∃ (i bI:Nat) (ds:List Deferred) (l m:List Nd) (r:kI) (ps:List Value),a'={ tmps:=KJ x.gP A1 k c1 A2 c2 ser bP bI (fun n=>a'.tmps.toList.getD n undef),defers:=ds }/\j=65538-i/\i<=l.length/\i<=L.length/\
    l=bare (iA g.nmN g.ao_ a i)/\Side l m/\(∀ y∈eL l,g.isB y=true)/\(∀ y∈eL m,h.isB y=true)/\mY g.nmN g.ao_ h.ao_ (g.odM h ser) a b=nR g.nmN g.ao_ h.ao_ (g.odM h ser) (ve-i) i l m/\
    oW W0 x bP (.pointer (some ⟨p.g,0,none⟩)) (.pointer (some ⟨q.g,0,none⟩)) r (.int .i64 0) (.slice none 0 0) (.int .i64 0) l m ps W/\eW W bI 3 #[.int .i64 i]/\¬ r.has bI/\W0.heap.size<=bI/\gC W0.heap.size ds W) 65538 ?start ?round
   case start=>
    refine⟨0,wr.heap.size,[],l,m,r',ps,rfl,rfl,aL _,aL _,?_,Ol.o,Vc.o,Wy.o,yu.o,nE.o,eW.new wr _ _,Z_.o,HS.o.base.size,gC.nil _ _⟩;rw[HB.o.1,<-ZZ.o];rfl
   case round=>
    clear HS nE Z_ yr HB Ol yu Vc Wy;clear r' ps l m wr;rintro j a' W ⟨i,bI,ds,l,m,r',ps,ha,hj,hil,hiL,P4,vt,Mt,Ou,hdf,S,BI,Ul,hbI,MK⟩;generalize (fun n=>a'.tmps.toList.getD n undef)=gf at ha;unfold KJ at ha;subst ha;have HJ:=aa hj;have OP:=aa P4;have Ol:=aa vt;have Vc:=aa Mt;have Wy:=aa Ou;have yu:=aa hdf;have HS:=aa S;have Zt:=aa BI;have HNI:=aa Ul;have yy:=aa MK;have ag4:l.length<=65536:=by
     have:=(HLP.o i hiL).length_le;rw[P4,rr];omega
    clear hj P4 vt Mt Ou hdf S BI Ul MK;have k0:=Zt.o.cell 0;have k1:=HS.o.box.cell 0;have k2:=HS.o.pr.box.cell 0;have k3:=HS.o.pr.ga.box.cell 1;obtain⟨AA,cA,eA,-⟩:=fF HS.o.pr.ga.met;rw[eA]at k3;clear eA;by_cases hlt:i<l.length
    .have hd:decide ((i:Int)<(l.length:Int))=true:=by simp;omega
     gi_upto_region 7 with fail
     refine wpIn_wide.2 ?_
     go_quiet (fail)
     have wE:=aa (below_drewN (Below.refl W.heap.size W) nq);have Bj:=aa (HS.o.below wE.o);have OO:=aa (Zt.o.below wE.o Zt.o.lt);have Tl:=aa (yy.o.below wE.o);clear k0 k1 k2 k3 HS Zt yy wE hd;generalize W.drewN nq=W1 at*
     have OY:=aa (show g.isB (iw l i)=true from Vc.o _ (by
      rw[<-jx,aj,aq (by rw[fI];exact hlt)];exact ax _))
     have Fj:=aa (show h.isB (iw m i)=true from Wy.o _ (by
      rw[<-jx,aj,aq (by rw[fI,Ol.o.len];exact hlt)];exact ax _))
     have Ed:=aa (GS Bj.o.pr (Td.o.below Bj.o.base) GA (Od.o.below Bj.o.base) GB (sp.below Bj.o.base) Ol.o ser i hlt (by omega) OY.o Fj.o);have tz:=aa hlt;have HFU:=aa (show ∃ f,ve-i=f+1/\ve-(i+1)=f from⟨ve-(i+1),by unfold ve;omega,rfl⟩);have k0:=OO.o.cell 0;have k1:=Bj.o.box.cell 0;generalize hod:g.odM h ser (iw l i) (iw m i)=od at*;have Vg:=aa hod;clear hod;gi_wp2_with fail;refine⟨trivial,(callsIn_wide.2 Ed.o).mono ?_⟩;rintro e W2 (⟨ho,rfl,P2,hb2⟩|⟨kd,at_,ho,hD⟩)
     .have HON:=aa (Vg.o.trans ho);have nE:=aa (Bj.o.below hb2);have Wd:=aa (OO.o.below hb2 OO.o.lt);have yS:=aa (Tl.o.below hb2);clear Bj OO Tl k0 k1 Ed P2 hb2 ho Vg
      gi_upto_region 11 with fail
      have hbO:=(Below.refl W2.heap.size W2).alloc (ah _) (.cells #[.slice none 0 0] 101);have qI:=aa (nE.o.below hbO);have D9:=aa (Wd.o.below hbO Wd.o.lt);have sX:=aa (yS.o.below hbO);have LL:=aa (show jp W0 r' W2.heap.size (.slice none 0 0) [] (W2.alloc (.cells #[.slice none 0 0] 101)) from⟨eW.new W2 _ _,⟨rfl,.inl ⟨rfl,rfl⟩⟩,nE.o.base.size,fun k hk=>by cases hk⟩);clear nE Wd yS hbO;generalize W2.heap.size=bO at*;generalize W2.alloc (.cells #[.slice none 0 0] 101)=W3 at*;have k0:=cell_regrown (D9.o.cell 0);have k1:=cell_regrown (qI.o.box.cell 0);have k2:=cell_regrown (qI.o.pr.box.cell 1);have k3:=cell_regrown (qI.o.pr.gb.box.cell 0);have k4:=qI.o.pr.gb.box.cell 1;obtain⟨AB,cB,eB,hrB⟩:=fF qI.o.pr.gb.met;rw[eB]at k4;replace k4:=cell_regrown k4;have Ir:i<m.length:=(by have:=Ol.o.len;omega);obtain⟨adB,uB,rfl,abv,Ut,k5⟩:=hrB.at_ Ir;rw[ft (by rw[fI];exact Ir),jx]at Ut;injection Ut with Ut;subst Ut;replace k5:=cell_regrown k5;have X4:m.length<9223372036854775807:=(by have:=Ol.o.len;omega);clear hrB eB abv;generalize hou:iw m i=u at*;have HOU:=aa hou;have Yb:u<4294967296:=by
       have h1:=HM.ap5 Fj.o;have h2:=GB.fit.marks;have h3:=GB.fit.room;have h4:=GB.fit.hi;omega
      clear hou;refine wpIn_wide.2 ?_;refine wp_region_below_tail 17 (by kernel_rfl) (by kernel_rfl) ?_;simp only[aR,bi,aS,bj];repeat (quiet_step (fail))
      refine wpQuiet_nil ?_;intro wq VV;obtain⟨⟨dq,osq⟩,hw''⟩:=VV;subst hw'';have qU:=below_regrown W3 dq osq;have xu:=aa (qI.o.below qU);have Fh:=aa (D9.o.below qU D9.o.lt);have BJ:=aa (sX.o.below qU);have Vf:=aa (LL.o.below qU);clear k0 k1 k2 k3 k4 k5 qU qI D9 sX LL;generalize grow (redrawn W3 dq) osq=W4 at*;go_wp2_with fail;refine (sG q.g u W4).mono ?_;rintro e W5 ⟨rfl,rfl⟩;go_wp2_with fail;have oo:Below W4.heap.size W4 ((W4.alloc (.cells #[.pointer (some ⟨q.g,0,none⟩)] 23)).alloc (.cells #[.int .u32 (u:Nat)] 54)):=((Below.refl _ _).alloc (ah _) _).alloc (by simp) _;have BH:=(eW.new W4 23 #[.pointer (some ⟨q.g,0,none⟩)]).alloc (.cells #[.int .u32 (u:Nat)] 54);have BO:=eW.new (W4.alloc (.cells #[.pointer (some ⟨q.g,0,none⟩)] 23)) 54 #[.int .u32 (u:Nat)];rw[ak]at BO;have nG:=aa (xu.o.below oo);have SX:=aa (Fh.o.below oo Fh.o.lt);have BK:=aa (BJ.o.below oo);have Ec:=aa (Vf.o.below oo);have Oq:∀ D,({ target:=.collected D,args:=#[] }:Deferred)∈ds->D<W4.heap.size:=fun D hD=>by
       obtain⟨D',h1,_,h3⟩:=BJ.o.at_ _ hD;injection h1 with h1;injection h1 with h1;subst h1;exact fA h3
      have Za:¬ r'.has (W4.heap.size+1):=fun e=>by have:=(xu.o.pr.aqj e).2;omega
      have hmA:x.mA<W4.heap.size:=xu.o.pr.ga.num.lt;have hmB:x.mB<W4.heap.size:=xu.o.pr.gb.num.lt;have hw0:W0.heap.size<=W4.heap.size:=xu.o.base.size;unfold ptr;generalize Vz:(W4.alloc (.cells #[.pointer (some ⟨q.g,0,none⟩)] 23)).alloc (.cells #[.int .u32 (u:Nat)] 54)=W5 at*;have hs5:W5.heap.size=W4.heap.size+2:=(by rw[<-Vz];simp);generalize W4.heap.size=Bh at*;clear Vz oo xu Fh BJ Vf;have Tw:=aa (show sZ W5 q h Bh (Bh+1) u from⟨Od.o.below nG.o.base,sp.below nG.o.base,BH.cell 0,BO.cell 0⟩);have hN:=zS GB.fit u (HM.aps GB.laid.heads Fj.o);have U8:=aa Oq;have HNR:=aa Za;clear Oq Za;gi_wp2_with fail
      refine wpIn_rangeFunc_ownH (F:=Fence.wide) rfl (by omega) (gf:=192) (lb:=#[.pointer (some ⟨Bh,0,none⟩),.pointer (some ⟨Bh+1,0,none⟩)]) rfl trivial (enters_of Tryz.func192 (by kernel_rfl) rfl)
       (rJ Tw.o GB.fit GB.laid.heads Yb Fj.o 5 (fun A B=>qT W0.heap.size Bh (Bh+1) A B) (qT.need Od.o sp)) (fun a b=>qT.trans a b) (fun W l o o' h1 h2 h3 _=>qT.book W l o o' (by omega) (by omega) (by omega) h2 h3) (Below.refl _ _) (fun _=>rfl)
       (fun pre W=>∃ vo,jp W0 r' bO vo (pre.map (h.ao_ u)) W/\vo.ownBlock≠some (Bh+1)/\oW W0 x bP (.pointer (some ⟨p.g,0,none⟩)) (.pointer (some ⟨q.g,0,none⟩)) r' (.int .i64 0) (.slice none 0 0) (.int .i64 0) l m ps W/\eW W bI 3 #[.int .i64 i]/\gC W0.heap.size ds W/\eW W Bh 23 #[.pointer (some ⟨q.g,0,none⟩)]/\eW W (Bh+1) 54 #[.int .u32 (u:Nat)])
       (fun c pre W=>False)
       (fun pre A B row ⟨vo,h1,h2,h3,h4,h5,h6,h7⟩ hg hr=>⟨vo,h1.apw hg hr,h2,h3.apw (by omega) (by omega) (by omega) hg hr,ir h4 hg hr,h5.apw (fun D hD=>by have:=U8.o D hD;omega) hg hr,ir h6 hg hr,ir h7 hg hr⟩)
       (fun c pre A B row h _ _=>h.elim)
       ⟨_,Ec.o,(fun e=>by cases e),nG.o,SX.o,BK.o,BH,BO⟩
       (fun x' a' W=>a'={ tmps:=FU bO (h.ao_ u x') (fun n=>a'.tmps.toList.getD n undef),defers:=[] })
       (fun x a' _ X Y row hs hg hr=>hs)
       ?assign ?body ?done (fun D c pre W _ _ h=>h.elim)
      case assign=>
       rintro lp pre x' W K hI hK;rw[show OA h u x'=#[.int .i64 ((x':Int)-1),.int .u32 (h.ao_ u x':Nat)] from rfl];have HK:=aa hK;have Wz:=aa hI;clear hK hI;generalize h.ao_ u x'=v at*;gi_wp2_with fail;exact HK.o _ _ ((aJ _).from _) ⟨rfl,rfl,rfl,ah _,fun _ _=>rfl,rfl,rfl,fun _ _ b=>b⟩ Wz.o rfl
      case body=>
       rintro lp pre x' a' W hl ⟨r0,uH⟩ ⟨vo,O,VS,S,BI,MK,BH,BO⟩ ha Gl;have Yd:=HM.apL GB.fit u x';have wD:=aa (show (pre++[x']).map (h.ao_ u)=pre.map (h.ao_ u)++[h.ao_ u x'] by simp);have Yg:(pre.map (h.ao_ u)).length<=2000000:=(by rw[aB];omega);generalize h.ao_ u x'=v at*;generalize pre.map (h.ao_ u)=xs at*;generalize (fun n=>a'.tmps.toList.getD n undef)=g2 at ha;unfold FU at ha;subst ha;have ww:=aa O;have lM:=aa S;have HV6:=aa (And.intro VS (And.intro BI (And.intro MK (And.intro BH BO))));have k0:=O.bo.cell 0;have z0:=O.bo.frozen 0;have hbl:bO<W.heap.size:=O.bo.lt;have VT:W0.heap.size<=W.heap.size:=S.base.size;obtain⟨i0,iF,hz0,hz1,hz2⟩:=info_parts lZ;clear O S VS BI MK BH BO;apply wpIn_block;refine wn (by kernel_rfl) (by rintro⟨a,w,hh⟩;exact hh) ?_;go_wp2_with (at_builtin;refine eM _ rfl (.tmp 69) (.tmp 71) _ rfl W0.heap.size 54 i0 _ 1 4 Tryz.underlying101 iF hz0 hz1 hz2 rfl (by omega) vo xs.length _ rfl (ww.o.own.alloc _) (W.heap.size+1) (some ⟨W.heap.size,0,none⟩) 1 1 (eN [v]) rfl ⟨rfl,fun _=>⟨_,rfl,by simp,cell_one_new _ _ _⟩⟩ (fU _) (by simp only[maxLen];omega) (by omega) (by simp;omega) ?_;intro v1 w5 fe jG j0;obtain⟨A5,c5,rfl,-⟩:=fF fe;have G5:=fG.ap9 _ _ _ (fG.of jG j0);have LB:=ww.o.bo.same (G5.far hbl (eU ww.o.own ww.o.bo (by decide)));have k5:=LB.cell 0;have z5:=LB.frozen 0);have kC:w5.ownsRow W0.heap.size 54 1 (.slice A5 (xs.length+1) c5) (xs++[v]).length (eN (xs++[v])):=by
        rw[show eN (xs++[v])=eN xs++eN [v] by simp[eN],show (xs++[v]).length=xs.length+1 by simp];exact fe
       obtain⟨O7,S7⟩:=ww.o.grow lM.o kC G5;obtain⟨VS,BI,MK,BH,BO⟩:=HV6.o;have agI:bO≠Bh+1:=ww.o.bo.ne_ BO (by decide);exact⟨ww.o.keeps G5 _ _,ww.o.kpG VT G5 _ BH BO VS,_,by rw[wD.o];exact O7,(fun e=>by
        rcases G5.at_ _ e with e'|e'
        .exact VS e'
        .have:=BO.lt;omega),S7,BI.same (ww.o.blk G5 _ BI (by decide) (by decide)),ww.o.marks G5 _ MK,BH.same (ww.o.blk G5 _ BH (by decide) (by decide)),BO.same (ww.o.other G5 BO.lt VS (fun e=>agI e.symm) _)⟩
      case done=>
       rintro D xs W hD rfl ⟨vo,O,VS,S,BI,MK,BH,BO⟩ hK;have LL:=aa O;have qI:=aa S;have D9:=aa BI;have sX:=aa (MK.cons (by omega) hK (fun D' KP=>by have:=U8.o D' KP;omega));clear O S BI MK BH BO hK VS Tw nG SX BK Ec U8 HNR hN;have k0:=cell_regrown (D9.o.cell 0);have k1:=cell_regrown (qI.o.box.cell 0);have k2:=cell_regrown (qI.o.pr.box.cell 0);have k3:=cell_regrown (qI.o.pr.ga.box.cell 0);have k4:=qI.o.pr.ga.box.cell 1;obtain⟨AA',cA',eA,hrA⟩:=fF qI.o.pr.ga.met;rw[eA]at k4;replace k4:=cell_regrown k4;obtain⟨adA,uA,rfl,abu,Us,k5⟩:=hrA.at_ tz.o;rw[ft (by rw[fI];exact tz.o),jx]at Us;injection Us with Us;subst Us;replace k5:=cell_regrown k5;have hlt:=tz.o;have X4:l.length<9223372036854775807:=(by omega);clear hrA eA abu;generalize hoo:iw l i=o at*;have Vh:=aa hoo;have zD:o<4294967296:=by
        have h1:=HM.ap5 OY.o;have h2:=GA.fit.marks;have h3:=GA.fit.room;have h4:=GA.fit.hi;omega
       clear hoo
       gi_upto_region 14 with fail
       refine wpIn_wide.2 ?_;refine wp_region_below_tail 17 (by kernel_rfl) (by kernel_rfl) ?_;simp only[aR,bi,aS,bj];repeat (quiet_step (fail))
       refine wpQuiet_nil ?_;intro wq VV;obtain⟨⟨dq,osq⟩,hw''⟩:=VV;subst hw'';have qU:=below_regrown W dq osq;have xu:=aa (qI.o.below qU);have Fh:=aa (D9.o.below qU D9.o.lt);have BJ:=aa (sX.o.below qU);have Vf:=aa (LL.o.below qU);clear k0 k1 k2 k3 k4 k5 qU qI D9 sX LL;generalize grow (redrawn W dq) osq=W4 at*;go_wp2_with fail;refine (sG p.g o W4).mono ?_;rintro e W5 ⟨rfl,rfl⟩;go_wp2_with fail;have oo:Below W4.heap.size W4 ((W4.alloc (.cells #[.pointer (some ⟨p.g,0,none⟩)] 23)).alloc (.cells #[.int .u32 (o:Nat)] 54)):=((Below.refl _ _).alloc (ah _) _).alloc (by simp) _;have BH:=(eW.new W4 23 #[.pointer (some ⟨p.g,0,none⟩)]).alloc (.cells #[.int .u32 (o:Nat)] 54);have BO:=eW.new (W4.alloc (.cells #[.pointer (some ⟨p.g,0,none⟩)] 23)) 54 #[.int .u32 (o:Nat)];rw[ak]at BO;have nG:=aa (xu.o.below oo);have SX:=aa (Fh.o.below oo Fh.o.lt);have BK:=aa (BJ.o.below oo);have Ec:=aa (Vf.o.below oo);have Oq:∀ D',({ target:=.collected D',args:=#[] }:Deferred)∈({ target:=.collected D,args:=#[] } :: ds)->D'<W4.heap.size:=fun D' KP=>by
        obtain⟨D'',h1,_,h3⟩:=BJ.o.at_ _ KP;injection h1 with h1;injection h1 with h1;subst h1;exact fA h3
       have Za:¬ r'.has (W4.heap.size+1):=fun e=>by have:=(xu.o.pr.aqj e).2;omega
       have hmA:x.mA<W4.heap.size:=xu.o.pr.ga.num.lt;have hmB:x.mB<W4.heap.size:=xu.o.pr.gb.num.lt;have hw0:W0.heap.size<=W4.heap.size:=xu.o.base.size;have amd:bI<W4.heap.size:=Fh.o.lt;have O2:=aa (show x.mA<W4.heap.size+2/\x.mB<W4.heap.size+2 by omega);unfold ptr;generalize Vz:(W4.alloc (.cells #[.pointer (some ⟨p.g,0,none⟩)] 23)).alloc (.cells #[.int .u32 (o:Nat)] 54)=W5 at*;have hs5:W5.heap.size=W4.heap.size+2:=(by rw[<-Vz];simp);rw[<-hs5]at O2;generalize W4.heap.size=Bh at*;clear Vz oo xu Fh BJ Vf;have Tw:=aa (show sZ W5 p g Bh (Bh+1) o from⟨Td.o.below nG.o.base,sp.below nG.o.base,BH.cell 0,BO.cell 0⟩);have hN:=zS GA.fit o (HM.aps GA.laid.heads OY.o);have U8:=aa Oq;have HNR:=aa Za;have LK:=aa (show h.nmN u=g.nmN o from EJ _ _ HON.o);clear Oq Za;gi_wp2_with fail
       refine wpIn_rangeFunc_ownH (F:=Fence.wide) rfl (by omega) (gf:=192) (lb:=#[.pointer (some ⟨Bh,0,none⟩),.pointer (some ⟨Bh+1,0,none⟩)]) rfl trivial (enters_of Tryz.func192 (by kernel_rfl) rfl)
        (M5 Tw.o GA.fit GA.laid.heads zD OY.o 5 (fun A B=>qT W0.heap.size Bh (Bh+1) A B) (qT.need Td.o sp)) (fun a b=>qT.trans a b) (fun W l o o' h1 h2 h3 _=>qT.book W l o o' (by omega) (by omega) (by omega) h2 h3) (Below.refl _ _) (fun _=>rfl)
        (fun pre W=>∃ l2 m2 r2 EQ,mV g.ao_ h.ao_ l m i (pre.map (·.1))= .on l2 m2/\l <+: l2/\Side l2 m2/\(∀ y∈eL l2,g.isB y=true)/\(∀ y∈eL m2,h.isB y=true)/\oW W0 x bP (.pointer (some ⟨p.g,0,none⟩)) (.pointer (some ⟨q.g,0,none⟩)) r2 (.int .i64 0) (.slice none 0 0) (.int .i64 0) l2 m2 EQ W/\
          jp W0 r2 bO vo ((aD (h.nmN u)).map (h.ao_ u)) W/\eW W bI 3 #[.int .i64 i]/\¬ r2.has bI/\¬ r2.has (Bh+1)/\gC W0.heap.size ({ target:=.collected D,args:=#[] } :: ds) W/\eW W Bh 23 #[.pointer (some ⟨p.g,0,none⟩)]/\eW W (Bh+1) 54 #[.int .u32 (o:Nat)])
        (fun c pre W=>c= .ret/\∃ d,mV g.ao_ h.ao_ l m i (pre.map (·.1))= .off d/\Below W0.heap.size W0 W/\lr W x.gP d/\gC W0.heap.size ({ target:=.collected D,args:=#[] } :: ds) W)
        (fun pre A B row ⟨l2,m2,r2,EQ,h1,h2,h3,h4,h5,h6,h7,h8,h9,h10,h11,h12,h13⟩ hg hr=>⟨l2,m2,r2,EQ,h1,h2,h3,h4,h5,h6.apw (by omega) (by omega) (by omega) hg hr,h7.apw hg hr,ir h8 hg hr,h9,h10,h11.apw (fun D hD=>by have:=U8.o D hD;omega) hg hr,ir h12 hg hr,ir h13 hg hr⟩)
        (fun c pre A B row ⟨h1,d,h2,h3,h4,h5⟩ hg hr=>⟨h1,d,h2,IX h3 (by omega) hg hr,h4.apw hg hr,h5.apw (fun D hD=>by have:=U8.o D hD;omega) hg hr⟩)
        ⟨l,m,r',ps,rfl,List.prefix_refl _,Ol.o,Vc.o,Wy.o,nG.o,Ec.o,SX.o,HNI.o,HNR.o,BK.o,BH,BO⟩
        (fun x' a' W=>a'={ tmps:=FV bP bI bO ((x'.1:Int)-1) (g.ao_ o x'.1) (fun n=>a'.tmps.toList.getD n undef),defers:=[] })
        (fun x a' _ X Y row hs hg hr=>hs)
        ?assign4 ?body4 ?done4 ?stop4
       case assign4=>
        rintro lp pre x' W K hI hK;rw[show OA g o x'.1=#[.int .i64 ((x'.1:Int)-1),.int .u32 (g.ao_ o x'.1:Nat)] from rfl];have HK:=aa hK;have Wz:=aa hI;clear hK hI;generalize g.ao_ o x'.1=v at*;gi_wp2_with fail;exact HK.o _ _ ((aJ _).from _) ⟨rfl,rfl,rfl,ah _,fun _ _=>rfl,rfl,rfl,fun _ _ b=>b⟩ Wz.o rfl
       case body4=>
        rintro lp pre x' a' W hl ⟨r0,uH⟩ ⟨l2,m2,r2,EQ,h1,h2,h3,h4,h5,S,O,BI,Ul,X5,MK,BH,BO⟩ ha Gl;have MG:=HM.apL GA.fit o x'.1;have acS:=HM.apL GB.fit u x'.1;have hxn:x'.1<h.nmN u:=(by rw[LK.o];exact x'.2);have HPM:=aa (show (pre++[x']).map (·.1)=pre.map (·.1)++[x'.1] by simp);have Z7:=aa h1;have Sr:=aa (fun hp=>M4 (k:=x'.1) h1 hp);have YO:=aa (fun hp=>JI (k:=x'.1) h1 hp);have HPR:=aa h2;have nE:=aa h3;have HI2:=aa h4;have HI3:=aa h5;have HVA:=aa (fun hk2=>pX GA OY.o x'.2 hk2);have HVB:=aa (fun hk2=>pX GB Fj.o hxn hk2);have amV:l2.length<=2097152:=om GA.fit h3.ndl h4;have Ql:i<l2.length:=aw tz.o h2.length_le;have WR:=aa (show fQ l2 i=fQ l i from Dz h2 Ol.o.up tz.o);rw[Vh.o,HOU.o]at Sr YO;obtain⟨AO,cO,eO,hrO⟩:=fF O.own;obtain⟨YX,uO,eAO,agH,hxO,kO⟩:=hrO.at_ (k:=x'.1) (by rw[aB,az];exact hxn);subst eAO;have huO:uO= .int .u32 (h.ao_ u x'.1:Nat):=by
         rw[ft (by rw[aB,az];exact hxn),aj,aI,List.getElem?_range hxn]at hxO;injection hxO with hxO;exact hxO.symm
        subst huO;obtain⟨AP,cP,eP,hrP⟩:=fF S.pr.paths;obtain⟨Vq,uP,eAP,abw,hxP,kP⟩:=hrP.at_ (k:=i) (by rw[S.pr.apY];exact Ql);subst eAP;obtain⟨gw,cw,SF,zF,-,-,-⟩:=S.pr.ways i Ql;rw[WR.o]at SF zF;have huP:uP= .slice (some ⟨gw,0,none⟩) (fQ l i).length cw:=by
         rw[<-SF,aj,hxP];rfl
        subst huP;have hpl:=Dx l i;have Zc:=Dy l i;rw[aB,az]at eO;have hNu:h.nmN u<9223372036854775807:=(by rw[LK.o];omega);have ang:EQ.length<9223372036854775807:=(by rw[S.pr.apY];omega);have amH:i<EQ.length:=(by rw[S.pr.apY];exact Ql);have LO:=aa (fun (w':World) (hb:Below W.heap.size W w')=>show w'.cell? ⟨bP,0,none⟩=some (.pointer (some ⟨x.gP,0,none⟩))/\w'.cell? ⟨bO,0,none⟩=some (.slice (some YX) (h.nmN u) cO)/\w'.cell? (YX.add x'.1)=some (.int .u32 (h.ao_ u x'.1:Nat))/\w'.cell? ⟨x.gP,2,none⟩=some (.slice (some Vq) EQ.length cP)/\w'.cell? ⟨bI,0,none⟩=some (.int .i64 i)/\w'.cell? (Vq.add i)=some (.slice (some ⟨gw,0,none⟩) (fQ l i).length cw) from by
         refine⟨(S.box.below hb S.box.lt).cell 0,?_,(hb.cell (au _ _ kO)).trans kO,?_,(BI.below hb BI.lt).cell 0,(hb.cell (au _ _ kP)).trans kP⟩
         .have:=(O.bo.below hb O.bo.lt).cell 0;rw[eO]at this;exact this
         .have:=(S.pr.box.below hb S.pr.box.lt).cell 2;rw[eP]at this;exact this)
        have HWY:=aa zF;have Om:=aa S;have WN:=aa O;have HXX:=aa (And.intro BI (And.intro Ul (And.intro X5 (And.intro MK (And.intro BH BO)))));have ZW:=aa (And.intro kO kP);have ame:Bh+1<W.heap.size:=BO.lt;have hWW:W0.heap.size<=W.heap.size:=S.base.size;clear h1 h2 h3 h4 h5 S O BI Ul X5 MK BH BO eO hrO hxO kO eP hrP hxP kP SF zF agH abw;generalize hv:g.ao_ o x'.1=v at*;generalize hu2:h.ao_ u x'.1=u2 at*;have HV:=aa hv;have HU2:=aa hu2;clear hv hu2;generalize hfx:x'.1=fx at*;have BA:=aa hfx;clear hfx;have Jl:fx<9223372036854775807:=(by omega);generalize (fun n=>a'.tmps.toList.getD n undef)=g2 at ha;unfold FV at ha;subst ha;have hfw:IntKind.i64.wrap (fx:Int)=fx:=IntWalk.i64_in _ (by omega);have hBW:=aa (ib (Below.refl W.heap.size W));have ahv:(fQ l i).length<=9000000:=(by omega);have ahb:l2.length<=4000000:=by omega
        have aaz:=aa (fun (w9:World) (gq cq:Nat) (hb:Below W.heap.size W w9) (hrow:Row w9 gq 3 cq (jE (fQ l i++[(fx:Int)-1]))) (hgq:W.heap.size<=gq)=>
         Hx Om.o hb hrow hgq HI2.o HI3.o v u2 MG acS ahv nE.o i Ql WR.o ahb)
        have aad:=aa (fun (w9 w10:World) (r3:kI) (ps3:List Value) (hb:Below W.heap.size W w9) (Gp:gj l2 m2 v u2=0) (TF:na w10 W0.heap.size x (.pointer (some ⟨p.g,0,none⟩)) (.pointer (some ⟨q.g,0,none⟩)) r3 (.int .i64 0) (.slice none 0 0) (.int .i64 0) (fK l2 v i ((fx:Int)-1) 0) (fK m2 u2 i ((fx:Int)-1) 0) (fK l2 v i ((fx:Int)-1) 0) ps3) (s10:ik x r2 r3 w9 w10)=>
         show KeepsFrom W5.heap.size W w10/\qT W0.heap.size Bh (Bh+1) W w10/\∃ l2 m2 r2 EQ,mV g.ao_ h.ao_ l m i ((pre++[x']).map (·.1))= .on l2 m2/\l <+: l2/\Side l2 m2/\(∀ y∈eL l2,g.isB y=true)/\(∀ y∈eL m2,h.isB y=true)/\oW W0 x bP (.pointer (some ⟨p.g,0,none⟩)) (.pointer (some ⟨q.g,0,none⟩)) r2 (.int .i64 0) (.slice none 0 0) (.int .i64 0) l2 m2 EQ w10/\
          jp W0 r2 bO vo ((aD (h.nmN u)).map (h.ao_ u)) w10/\eW w10 bI 3 #[.int .i64 i]/\¬ r2.has bI/\¬ r2.has (Bh+1)/\gC W0.heap.size ({ target:=.collected D,args:=#[] } :: ds) w10/\eW w10 Bh 23 #[.pointer (some ⟨p.g,0,none⟩)]/\eW w10 (Bh+1) 54 #[.int .u32 (o:Nat)] from by
         obtain⟨BI,Ul,X5,MK,BH,BO⟩:=HXX.o;have S9:=Om.o.below hb;have O9:=WN.o.below hb;have BI9:=BI.below hb BI.lt;have BH9:=BH.below hb BH.lt;have BO9:=BO.below hb BO.lt;refine⟨(KeepsFrom.apa hb).trans (s10.keeps S9.pr O2.o.1 O2.o.2),(qT.apa hb hWW BH.lt BO.lt).trans (s10.kpG S9.pr BH9 BO9 X5),_,_,r3,ps3,?_,?_,nE.o.meet Gp _ _ _ (Int.ofNat_lt.2 Ql),my HI2.o HVA.o _ _ _,my HI3.o HVB.o _ _ _,S9.step TF s10,O9.pstep S9.pr s10,BI9.same (s10.aqK S9.pr BI9 (by decide) (by decide) Ul),s10.no BI9.lt Ul,s10.no BO9.lt X5,s10.marks S9.pr (MK.below hb),BH9.same (s10.blk S9.pr BH9 (by decide) (by decide) (by decide) (by decide) (by decide)),BO9.same (s10.aqK S9.pr BO9 (by decide) (by decide) X5)⟩
         .rw[HPM.o];exact Sr.o Gp
         .exact HPR.o.trans (kr _ _ _ _ _))
        have aab:=aa (fun (w9 w10:World) (e:Ending) (hb:Below W.heap.size W w9) (Gp:gj l2 m2 v u2≠0) (hD:pP W0.heap.size x (.pointer (some ⟨p.g,0,none⟩)) (.pointer (some ⟨q.g,0,none⟩)) r2 l2 m2 l2 EQ (gj l2 m2 v u2) (fQ l i++[(fx:Int)-1]) 0 w9 e w10)=>
         show e= .returned (.bool true)/\KeepsFrom W5.heap.size W w10/\(Code.ret= .ret/\∃ d,mV g.ao_ h.ao_ l m i ((pre++[x']).map (·.1))= .off d/\Below W0.heap.size W0 w10/\lr w10 x.gP d/\gC W0.heap.size ({ target:=.collected D,args:=#[] } :: ds) w10) from by
         obtain⟨BI,Ul,X5,MK,BH,BO⟩:=HXX.o;have S9:=Om.o.below hb;obtain⟨rfl,s10,gD,cD,TF,X8,hgD⟩:=hD;refine⟨rfl,(KeepsFrom.apa hb).trans (s10.keeps S9.pr O2.o.1 O2.o.2),rfl,⟨gj l2 m2 v u2,fQ l i++[(fx:Int)-1],0⟩,?_,S9.base' s10,E2 TF X8 (aw S9.pr.box.lt hgD),s10.marks S9.pr (MK.below hb)⟩;rw[HPM.o];exact YO.o Gp)
        have hS:=LO.o _ hBW.o;have II:=aa (HWY.o.below hBW.o);have hWD:W.heap.size=W.drew.heap.size:=rfl;have uQ:=aa hWD;clear hWD;obtain⟨i0,iF,hz0,hz1,hz2⟩:=info_parts zG;generalize hPG:ownPostG W5.heap.size (fun A B=>qT W0.heap.size Bh (Bh+1) A B) _ _ (pre++[x']) W=PG;have Pb:=aa hPG;clear hPG
        gi_upto_region 17 with fail
        refine iL 18 (fun w'=>w'.cell? ⟨bP,0,none⟩=some (.pointer (some ⟨x.gP,0,none⟩))/\w'.cell? ⟨bO,0,none⟩=some (.slice (some YX) (h.nmN u) cO)/\w'.cell? (YX.add fx)=some (.int .u32 (u2:Nat))/\w'.cell? ⟨x.gP,2,none⟩=some (.slice (some Vq) EQ.length cP)/\w'.cell? ⟨bI,0,none⟩=some (.int .i64 i)/\w'.cell? (Vq.add i)=some (.slice (some ⟨gw,0,none⟩) (fQ l i).length cw)) (by kernel_rfl) (by kernel_rfl) ?_;generalize W.drew=W7 at*;refine fW 0 [18] (v:=.pointer (some ⟨x.gP,0,none⟩)) rfl (by kernel_rfl) (fun _ _ _ h=>h) hS (by rfl) (fun w' hw'=>by obtain⟨h0,h1,h2,h3,h4,h5⟩:=hw';go_simp) ?_;try simp only[ai,ae,af,ag]
        refine fW 1 [18] (v:=.int .u32 (v:Int)) rfl (by kernel_rfl) (fun _ _ _ h=>h) hS (by rfl) (fun w' hw'=>by obtain⟨h0,h1,h2,h3,h4,h5⟩:=hw';go_simp) ?_;try simp only[ai,ae,af,ag]
        refine fW 3 [4,5,6,18] (v:=.int .i64 ((fx:Int)-1)) rfl (by kernel_rfl) (fun _ _ _ h=>h) hS (by rfl) (fun w' hw'=>by obtain⟨h0,h1,h2,h3,h4,h5⟩:=hw';go_simp) ?_;try simp only[ai,ae,af,ag]
        refine fW 2 [5,6,18] (v:=.slice (some YX) (h.nmN u) cO) rfl (by kernel_rfl) (fun _ _ _ h=>h) hS (by rfl) (fun w' hw'=>by obtain⟨h0,h1,h2,h3,h4,h5⟩:=hw';go_simp) ?_;try simp only[ai,ae,af,ag]
        refine fW 4 [5,6,18] (v:=.int .i64 (fx:Int)) rfl (by kernel_rfl) (fun _ _ _ h=>h) hS (by rfl) (fun w' hw'=>by obtain⟨h0,h1,h2,h3,h4,h5⟩:=hw';go_simp) ?_;try simp only[ai,ae,af,ag]
        refine fW 5 [6,18] (v:=.pointer (some (YX.add fx))) rfl (by kernel_rfl) (fun _ _ _ h=>h) hS (by rfl) (fun w' hw'=>by obtain⟨h0,h1,h2,h3,h4,h5⟩:=hw';go_simp) ?_;try simp only[ai,ae,af,ag]
        refine fW 6 [18] (v:=.int .u32 (u2:Int)) rfl (by kernel_rfl) (fun _ _ _ h=>h) hS (by rfl) (fun w' hw'=>by obtain⟨h0,h1,h2,h3,h4,h5⟩:=hw';go_simp) ?_;try simp only[ai,ae,af,ag]
        refine fW 7 [8,9,10,12,13,14,17,18] (v:=.pointer (some ⟨x.gP,0,none⟩)) rfl (by kernel_rfl) (fun _ _ _ h=>h) hS (by rfl) (fun w' hw'=>by obtain⟨h0,h1,h2,h3,h4,h5⟩:=hw';go_simp) ?_;try simp only[ai,ae,af,ag]
        refine fW 8 [9,10,12,13,14,17,18] (v:=.pointer (some ⟨x.gP,0,none⟩)) rfl (by kernel_rfl) (fun _ _ _ h=>h) hS (by rfl) (fun w' hw'=>by obtain⟨h0,h1,h2,h3,h4,h5⟩:=hw';go_simp) ?_;try simp only[ai,ae,af,ag]
        refine fW 9 [10,12,13,14,17,18] (v:=.pointer (some ⟨x.gP,2,none⟩)) rfl (by kernel_rfl) (fun _ _ _ h=>h) hS (by rfl) (fun w' hw'=>by obtain⟨h0,h1,h2,h3,h4,h5⟩:=hw';go_simp) ?_;try simp only[ai,ae,af,ag]
        refine fW 10 [12,13,14,17,18] (v:=.slice (some Vq) EQ.length cP) rfl (by kernel_rfl) (fun _ _ _ h=>h) hS (by rfl) (fun w' hw'=>by obtain⟨h0,h1,h2,h3,h4,h5⟩:=hw';go_simp) ?_;try simp only[ai,ae,af,ag]
        refine fW 11 [12,13,14,17,18] (v:=.int .i64 (i:Int)) rfl (by kernel_rfl) (fun _ _ _ h=>h) hS (by rfl) (fun w' hw'=>by obtain⟨h0,h1,h2,h3,h4,h5⟩:=hw';go_simp) ?_;try simp only[ai,ae,af,ag]
        refine fW 12 [13,14,17,18] (v:=.pointer (some (Vq.add i))) rfl (by kernel_rfl) (fun _ _ _ h=>h) hS (by rfl) (fun w' hw'=>by obtain⟨h0,h1,h2,h3,h4,h5⟩:=hw';go_simp) ?_;try simp only[ai,ae,af,ag]
        refine fW 13 [14,17,18] (v:=.slice (some ⟨gw,0,none⟩) (fQ l i).length cw) rfl (by kernel_rfl) (fun _ _ _ h=>h) hS (by rfl) (fun w' hw'=>by obtain⟨h0,h1,h2,h3,h4,h5⟩:=hw';go_simp) ?_;try simp only[ai,ae,af,ag]
        refine fW 15 [16,17,18] (v:=.int .i64 ((fx:Int)-1)) rfl (by kernel_rfl) (fun _ _ _ h=>h) hS (by rfl) (fun w' hw'=>by obtain⟨h0,h1,h2,h3,h4,h5⟩:=hw';go_simp) ?_;try simp only[ai,ae,af,ag]
        refine Pq 14 16 (by kernel_rfl) rfl rfl rfl rfl (fun K hK=>?_) (fun K hK=>?_)
        .go_simp;refine (sf (c:=cw) (show eQ W7 W7.heap.size 1 (some ⟨gw,0,none⟩) (fQ l i).length (jE (fQ l i)) from by have:=II.o.reads II.o.lt;rw[jf]at this;exact this) Zc (by omega)).mono ?_;rintro e w4 ⟨g1,k1,rfl,CY,agS,hb4⟩;have Vw:Below W.heap.size W w4:=hBW.o.trans (hb4.mono (by rw[uQ.o];exact ah _));have Ms:W.heap.size<=g1:=(by have:=uQ.o;omega);have hl4:W.heap.size<=w4.heap.size:=Vw.size;have yM:=aa Vw;have amv:g1<w4.heap.size:=CY.lt;rw[jf];try dsimp only
         refine hK _ _ (fun _=>LO.o _ yM.o) ?_;clear hK K;try simp only[ai,ae,af,ag]
         refine fh 16 (by kernel_rfl) rfl rfl (fun K hK=>?_);go_simp;have XB:=Vw.alloc hl4 (.cells #[.int .i64 ((fx:Int)-1)] 3);refine hK _ _ (fun _=>LO.o _ XB) ?_;clear hK K;try simp only[ai,ae,af,ag]
         have vn:(w4.alloc (.cells #[.int .i64 ((fx:Int)-1)] 3)).ownsRow W.heap.size 3 1 (.slice (some ⟨g1,0,none⟩) (fQ l i).length k1) (fQ l i).length (jE (fQ l i)):=by
          obtain⟨cur,h1,h2,h3,h4,h5⟩:=CY.alloc (.cells #[.int .i64 ((fx:Int)-1)] 3);rw[jf]at h2 h5;exact⟨by simp[jE],.inr ⟨g1,k1,cur,rfl,Ms,h1,h2,h3,by simpa using h4,by simpa using h5⟩⟩
         refine fh 17 (by kernel_rfl) rfl rfl (fun K hK=>?_);refine fS _ (.tmp 107) (.tmp 109) _ rfl W.heap.size 3 i0 _ 1 8 Tryz.underlying211 iF hz0 hz1 hz2 rfl (by omega) (.slice (some ⟨g1,0,none⟩) (fQ l i).length k1) (fQ l i).length (jE (fQ l i)) rfl vn _ _ 1 1 [.int .i64 ((fx:Int)-1)] rfl (mR (heap_alloc_new w4 _) (aG _)) (by simp[Value.oneCell']) (by simp only[maxLen];omega) (by omega) (by simp;omega) ?_;intro v5 w5 fe jG j0;obtain⟨g5,c5,rfl,jr,-,Ca⟩:=Row.apk fe (by omega);have wQ:=XB.grown jG (by have:=XB.size;simp at this ⊢;omega) (fun k hk=>by simp[Value.ownBlock]at hk;omega);rw[show jE (fQ l i)++[.int .i64 ((fx:Int)-1)]=jE (fQ l i++[(fx:Int)-1]) by simp[jE]]at jr;have tP:=aa (aaz.o w5 g5 c5 wQ jr Ca);have jL:=aa wQ;try dsimp only
         refine hK _ _ (fun _=>LO.o _ jL.o) ?_;clear hK K;try simp only[ai,ae,af,ag]
         clear fe jG j0 jr wQ hb4 CY;refine fh 18 (by kernel_rfl) rfl rfl (fun K hK=>?_);go_simp;refine tP.o.mono ?_;rintro e w10 (⟨Gp,rfl,r3,ps3,TF,s10⟩|⟨Gp,hD⟩)
         .have gN:=aa (aad.o _ _ _ _ jL.o Gp TF s10);clear TF s10;try dsimp only
          refine hK _ _ (fun h=>absurd h (by decide)) ?_;clear hK K;try simp only[ai,ae,af,ag]
          refine g_ (by kernel_rfl) ?_ _;simp only[Calm,Exit.then];gi_wp2_with fail;rw[<-Pb.o];exact gN.o
         .obtain⟨rfl,gS⟩:=aab.o _ _ _ jL.o Gp hD;have gN:=aa gS;clear gS hD;try dsimp only
          refine hK _ _ (fun h=>absurd h (by decide)) ?_;clear hK K;try simp only[ai,ae,af,ag]
          refine g_ (by kernel_rfl) ?_ _;simp only[Calm,Exit.then];gi_wp2_with fail;rw[<-Pb.o];exact⟨gN.o.1,rfl,gN.o.2.2⟩
        .go_simp;have Oo:=hBW.o.alloc (by rw[<-uQ.o];exact ah _) (.cells #[.int .i64 ((fx:Int)-1)] 3);have lQ:=aa Oo;have aat:=aa (II.o.alloc (.cells #[.int .i64 ((fx:Int)-1)] 3));have hl6:(W7.alloc (.cells #[.int .i64 ((fx:Int)-1)] 3)).heap.size=W.heap.size+1:=(by rw[ak,uQ.o]);have YF:=aa hl6;clear hl6;refine hK _ _ (fun _=>LO.o _ lQ.o) ?_;clear hK K;try simp only[ai,ae,af,ag]
         refine fh 14 (by kernel_rfl) rfl rfl (fun K hK=>?_);go_simp;refine (sf (c:=cw) (show eQ (W7.alloc (.cells #[.int .i64 ((fx:Int)-1)] 3)) (W7.alloc (.cells #[.int .i64 ((fx:Int)-1)] 3)).heap.size 1 (some ⟨gw,0,none⟩) (fQ l i).length (jE (fQ l i)) from by have:=aat.o.reads aat.o.lt;rw[jf]at this;exact this) Zc (by omega)).mono ?_;rintro e w4 ⟨g1,k1,rfl,CY,agS,hb4⟩;have Vw:Below W.heap.size W w4:=lQ.o.trans (hb4.mono (by rw[YF.o];omega));have Ms:W.heap.size<=g1:=(by have:=YF.o;omega);have hl4:W.heap.size<=w4.heap.size:=Vw.size;have yM:=aa Vw;have SZ:=aa (show w4.heap[W7.heap.size]? = some (.cells #[.int .i64 ((fx:Int)-1)] 3) from (hb4.block _ (by simp)).trans (heap_alloc_new W7 _));have ahK:W7.heap.size<w4.heap.size:=(by have:=hb4.size;simp at this;omega);rw[jf];try dsimp only
         refine hK _ _ (fun _=>LO.o _ yM.o) ?_;clear hK K;try simp only[ai,ae,af,ag]
         have vn:w4.ownsRow W.heap.size 3 1 (.slice (some ⟨g1,0,none⟩) (fQ l i).length k1) (fQ l i).length (jE (fQ l i)):=by
          obtain⟨cur,h1,h2,h3,h4,h5⟩:=CY;rw[jf]at h2 h5;exact⟨by simp[jE],.inr ⟨g1,k1,cur,rfl,Ms,h1,h2,h3,by simpa using h4,by simpa using h5⟩⟩
         refine fh 17 (by kernel_rfl) rfl rfl (fun K hK=>?_);refine fS _ (.tmp 107) (.tmp 109) _ rfl W.heap.size 3 i0 _ 1 8 Tryz.underlying211 iF hz0 hz1 hz2 rfl (by omega) (.slice (some ⟨g1,0,none⟩) (fQ l i).length k1) (fQ l i).length (jE (fQ l i)) rfl vn _ _ 1 1 [.int .i64 ((fx:Int)-1)] rfl (mR SZ.o ahK) (by simp[Value.oneCell']) (by simp only[maxLen];omega) (by omega) (by omega) ?_;intro v5 w5 fe jG j0;obtain⟨g5,c5,rfl,jr,-,Ca⟩:=Row.apk fe (by omega);have wQ:=Vw.grown jG (by have:=Vw.size;simp at this ⊢;omega) (fun k hk=>by simp[Value.ownBlock]at hk;omega);rw[show jE (fQ l i)++[.int .i64 ((fx:Int)-1)]=jE (fQ l i++[(fx:Int)-1]) by simp[jE]]at jr;have tP:=aa (aaz.o w5 g5 c5 wQ jr Ca);have jL:=aa wQ;try dsimp only
         refine hK _ _ (fun _=>LO.o _ jL.o) ?_;clear hK K;try simp only[ai,ae,af,ag]
         clear fe jG j0 jr wQ hb4 CY;refine fh 18 (by kernel_rfl) rfl rfl (fun K hK=>?_);go_simp;refine tP.o.mono ?_;rintro e w10 (⟨Gp,rfl,r3,ps3,TF,s10⟩|⟨Gp,hD⟩)
         .have gN:=aa (aad.o _ _ _ _ jL.o Gp TF s10);clear TF s10;try dsimp only
          refine hK _ _ (fun h=>absurd h (by decide)) ?_;clear hK K;try simp only[ai,ae,af,ag]
          refine g_ (by kernel_rfl) ?_ _;simp only[Calm,Exit.then];gi_wp2_with fail;rw[<-Pb.o];exact gN.o
         .obtain⟨rfl,gS⟩:=aab.o _ _ _ jL.o Gp hD;have gN:=aa gS;clear gS hD;try dsimp only
          refine hK _ _ (fun h=>absurd h (by decide)) ?_;clear hK K;try simp only[ai,ae,af,ag]
          refine g_ (by kernel_rfl) ?_ _;simp only[Calm,Exit.then];gi_wp2_with fail;rw[<-Pb.o];exact⟨gN.o.1,rfl,gN.o.2.2⟩
       case done4=>
        rintro D2 xs W hD2 rfl ⟨l2,m2,r2,EQ,h1,h2,h3,h4,h5,h6,h7,h8,h9,h10,h11,h12,h13⟩ hK2;rw[FQ,qs]at h1;have Z7:=aa h1;have O1:=aa (show l2=bare (iA g.nmN g.ao_ a (i+1)) from by
         have hb:=OP.o;rw[hb]at h1;have e:=vI h1;rw[e];show _=bare (j5 g.ao_ (iA g.nmN g.ao_ a i) i (g.nmN ((iA g.nmN g.ao_ a i).getD i default).o));rw[show ((iA g.nmN g.ao_ a i).getD i default).o=o by rw[<-Vh.o,hb,mK];rfl])
        have BG:=aa h2.length_le;have aeX:=aa (show mY g.nmN g.ao_ h.ao_ (g.odM h ser) a b=nR g.nmN g.ao_ h.ao_ (g.odM h ser) (ve-(i+1)) (i+1) l2 m2 from by
         obtain⟨fu,Qc,hf2⟩:=HFU.o;rw[yu.o,Qc,hf2];refine QO tz.o ?_;unfold lD;rw[Vh.o,HOU.o,HON.o];exact Z7.o)
        have afd:=aa (show i<L.length from by
         have e1:=(HLP.o i hiL).length_le;have e2:=tz.o;rw[OP.o,rr]at e2;omega)
        have HW:=aa h6;have LD:=aa h8;have Fk:=aa (h11.cons (show W0.heap.size<=D2 by omega) hK2 (fun D' KP=>by have:=U8.o D' KP;omega));have Ee:=aa (And.intro h3 (And.intro h4 h5));have k0:=h8.cell 0;clear h1 h2 h3 h4 h5 h6 h7 h8 h9 h10 h11 h12 h13 hK2;gi_wp2_with fail;have VE:=(Below.refl W.heap.size W).alloc (ah _) (.cells #[.int .i64 ((i:Int)+1)] 3);refine⟨65538-(i+1),?qa,i+1,W.heap.size,{ target:=.collected D2,args:=#[] } :: { target:=.collected D,args:=#[] } :: ds,l2,m2,r2,EQ,?qf,rfl,?qb,?qc,O1.o,Ee.o.1,Ee.o.2.1,Ee.o.2.2,aeX.o,HW.o.below VE,?qd,?qe,HW.o.base.size,Fk.o.below VE⟩
        case qa=>have h1:=HJ.o;have h2:=tz.o;omega
        case qf=>rfl
        case qb=>have h1:=BG.o;have h2:=tz.o;omega
        case qc=>exact afd.o
        case qd=>exact eW.new W 3 #[.int .i64 ((i:Int)+1)]
        case qe=>exact fun e=>by have:=(HW.o.pr.aqj e).2;omega
       case stop4=>
        rintro D2 c pre W hD2 yj ⟨rfl,d,h2,h3,h4,h5⟩ hK2;have Fk:=aa (h5.cons (show W0.heap.size<=D2 by omega) hK2 (fun D' KP=>by have:=U8.o D' KP;omega))
        have Xc:=aa (show Below W0.heap.size W0 W/\lr W x.gP (mY g.nmN g.ao_ h.ao_ (g.odM h ser) a b) from⟨h3,by
         obtain⟨fu,Qc,-⟩:=HFU.o;obtain⟨e1,e2⟩:=TQ yj;rw[e1,qs]at h2
         rw[yu.o,Qc,C_ (d:=d) tz.o (by
          unfold lD;rw[Vh.o,HOU.o,HON.o];exact JH h2 _ e2)]
         exact h4⟩)
        clear h2 h3 h4 h5 hK2;gi_wp2_with fail;refine jI (B:=W0.heap.size) _ _ Fk.o (fun w' e1 e2 e3 e4 e5=>?_);refine⟨.tuple #[],by simp[results,Tryz.results188,go_sem],?_⟩;exact xo Xc.o.1 Xc.o.2 Fk.o e1 e2 e3 e4 e5
     .obtain⟨rfl,s2,gD,cD,P2,hrow2,hgD⟩:=hD
      have gN:=aa (show Below W0.heap.size W0 W2/\lr W2 x.gP (mY g.nmN g.ao_ h.ao_ (g.odM h ser) a b)/\gC W0.heap.size ds W2 from⟨Bj.o.base' s2,by
       obtain⟨fu,Qc,-⟩:=HFU.o;rw[yu.o,Qc,C_ (d:=⟨kd,fQ l i,at_⟩) tz.o (by unfold lD;rw[Vg.o,ho])];exact E2 P2 hrow2 (aw Bj.o.pr.box.lt hgD),s2.marks Bj.o.pr Tl.o⟩)
      clear P2 s2 hrow2 Ed k0 k1 Bj OO Tl;gi_wp2_with fail;refine jI (B:=W0.heap.size) _ _ gN.o.2.2 (fun w' e1 e2 e3 e4 e5=>?_);refine⟨.tuple #[],by simp[results,Tryz.results188,go_sem],?_⟩;exact xo gN.o.1 gN.o.2.1 gN.o.2.2 e1 e2 e3 e4 e5
    .have hd:decide ((i:Int)<(l.length:Int))=false:=(by simp;omega);have gN:=aa (show lr W x.gP (mY g.nmN g.ao_ h.ao_ (g.odM h ser) a b) from by
      rw[yu.o,MT hlt];exact⟨HS.o.pr.box.cell 3,⟨none,0,HS.o.pr.box.cell 4,eQ.none_,(fun ad e=>by cases e),ah _⟩,HS.o.pr.box.cell 5⟩)
     gi_upto_region 7 with fail
     refine wpIn_wide.2 ?_
     go_quiet (fail)
     have qU:=below_drewN (Below.refl W.heap.size W) nq;have ig:=aa (eF HS.o.base qU);have sX:=aa (yy.o.below qU);have yv:=aa (gN.o.keep qU.size fun k cs t fr ho=>(qU.block k (fA ho)).trans ho);clear HS Zt yy qU k0 k1 k2 k3 gN;generalize W.drewN nq=W1 at*;gi_wp2_with fail;refine jI (B:=W0.heap.size) _ _ sX.o (fun w' e1 e2 e3 e4 e5=>?_);refine⟨.tuple #[],by simp[results,Tryz.results188,go_sem],?_⟩;exact xo ig.o yv.o sX.o e1 e2 e3 e4 e5
end
section
open Go.RowKit Go.Maps
attribute [local go_sem] Oper.semAt_some
theorem FA {nN:Nat->Nat}{nA:Nat->Nat->Nat}{L:List Nd}:∀ (f i:Nat) (l:List Nd),l.length<=65536->nH nN nA f i l=some L->L.length<=65536
 | 0,_,_,_,h=>by simp[nH]at h
 | f+1,i,l,hl,h=>by
   unfold nH at h;split at h
   .split at h
    .cases h
    .rename_i hr;exact FA f _ _ (by omega) h
   .injection h with h;subst h;exact hl
theorem NN {nN:Nat->Nat}{nA:Nat->Nat->Nat}{fr:List Nat}{L:List Nd}(h:f_ nN nA fr=some L):L.length<=65536:=by
 unfold f_ at h;split at h
 .cases h
 .rename_i hr;exact FA _ _ _ (by omega) h
def HM.apv (h:HM)(fr:List Nat):Nat:=if (f_ h.nmN h.ao_ fr).isSome then 0 else 2
theorem Hm (h:HM)(fr:List Nat):h.apv fr=0\/h.apv fr=2:=by unfold HM.apv;split <;> simp
def lH (g h:HM)(a b:List Nat):Nat:=if g.apn a=true/\h.apn b=true then (if a.length=b.length/\g.apv a=0/\h.apv b=0 then 0 else 2) else 3
def mM (g h:HM)(ser:Bool)(a b:List Nat):Df:=if lH g h a b=0 then mY g.nmN g.ao_ h.ao_ (g.odM h ser) a b else ⟨0,[],0⟩
def aaT (h:HM)(fr:List Nat)(w:World)(e:Ending)(w':World):Prop:=∃ v,e= .returned (.tuple #[v,.int .i64 (h.apv fr:Nat)])/\Below w.heap.size w w'
theorem DM {w:World}{p:HP}{h:HM}{ls:List Ob}(H:fO w p h)(G:h.Good ls)(hs:eX w)(A:Option Addr)(n c:Nat)(fr:List Nat)(hn:n<=9223372036854775807)(hr:eQ w w.heap.size 1 A n (eN fr))(h32:∀ x∈fr,x<4294967296)(hf:h.apn fr=true):
 Calls Tryz.prog 132 #[ptr p.g,.slice A n c] w (aaT h fr w):=by
 refine (Ho H G G.laid.heads hs A n c fr hn hr h32).mono ?_;rintro e w1 ⟨hb1,⟨h1,rfl⟩|⟨h1,h2,rfl⟩|⟨h1,l,gG,mB,vm,vd,h2,h3,rfl,-⟩⟩
 .rw[hf]at h1;cases h1
 .exact⟨_,by unfold HM.apv;rw[h2];rfl,hb1⟩
 .exact⟨_,by unfold HM.apv;rw[h2];rfl,hb1⟩
def OL (g h:HM)(ser:Bool)(a b:List Nat)(w:World)(e:Ending)(w':World):Prop:=
 Below w.heap.size w w'/\∃ A c,e= .returned (.tuple #[.agg #[.int .i64 (mM g h ser a b).kind,.slice A (mM g h ser a b).path.length c,.int .i64 (mM g h ser a b).at_],.int .i64 (lH g h a b:Nat)])/\eQ w' w'.heap.size 1 A (mM g h ser a b).path.length (jE (mM g h ser a b).path)/\(mM g h ser a b).path.length<=c
theorem I_ {g h:HM}{ser:Bool}{a b:List Nat}{w w':World}(hb:Below w.heap.size w w')(hE:lH g h a b≠0):OL g h ser a b w (.returned (.tuple #[.agg #[.int .i64 0,.slice none 0 0,.int .i64 0],.int .i64 (lH g h a b:Nat)])) w':=by
 have hv:mM g h ser a b=⟨0,[],0⟩:=by unfold mM;rw[if_neg hE]
 exact⟨hb,none,0,by rw[hv];rfl,by rw[hv];exact eQ.none_,by rw[hv];exact ah _⟩
def Li (w:World)(pg qg:Nat):World:=
 (((((w.alloc (.map #[] 0)).alloc (.cells #[.pointer (some ⟨pg,0,none⟩),.slice none 0 0,.map (some w.heap.size),.slice none 0 0] 227)).alloc (.map #[] 0)).alloc (.cells #[.pointer (some ⟨qg,0,none⟩),.slice none 0 0,.map (some (w.heap.size+1+1)),.slice none 0 0] 227)).alloc
   (.cells #[.pointer (some ⟨w.heap.size+1,0,none⟩),.pointer (some ⟨w.heap.size+1+1+1,0,none⟩),.slice none 0 0,.int .i64 0,.slice none 0 0,.int .i64 0] 289))
theorem Nl {W0 w:World}(hb:Below W0.heap.size W0 w)(pg qg:Nat):Below W0.heap.size W0 (Li w pg qg)/\
 na (Li w pg qg) W0.heap.size ⟨w.heap.size+1+1+1+1,w.heap.size+1,w.heap.size,w.heap.size+1+1+1,w.heap.size+1+1⟩ (.pointer (some ⟨pg,0,none⟩)) (.pointer (some ⟨qg,0,none⟩)) ⟨.slice none 0 0,.slice none 0 0,.slice none 0 0,.slice none 0 0,.slice none 0 0⟩ (.int .i64 0) (.slice none 0 0) (.int .i64 0) [] [] [] []:=by
 have h0:=hb.size;have hn:∀ (W:World) (e:TypeId) (B:Nat),W.ownsRow B e 1 (.slice none 0 0) 0 []:=fun W e B=>⟨rfl,.inl ⟨rfl,rfl⟩⟩;unfold Li;have s1:(w.alloc (.map #[] 0)).heap.size=w.heap.size+1:=ak ..;generalize hA:w.alloc (.map #[] 0)=W1 at*;have m1:iV 54 W1 w.heap.size 0 (iZ []) (fun x=>decide (x∈eL [])):=by rw[<-hA];exact (iV.made w _).ext (fun _=>rfl) (fun x=>by simp[eL])
 have b1:Below W0.heap.size W0 W1:=by rw[<-hA];exact hb.alloc h0 _
 clear hA;have s2:=ak W1 (.cells #[.pointer (some ⟨pg,0,none⟩),.slice none 0 0,.map (some w.heap.size),.slice none 0 0] 227);have g2:=eW.new W1 227 #[.pointer (some ⟨pg,0,none⟩),.slice none 0 0,.map (some w.heap.size),.slice none 0 0];have a2:=(Below.refl W1.heap.size W1).alloc (ah _) (.cells #[.pointer (some ⟨pg,0,none⟩),.slice none 0 0,.map (some w.heap.size),.slice none 0 0] 227);generalize W1.alloc (.cells #[.pointer (some ⟨pg,0,none⟩),.slice none 0 0,.map (some w.heap.size),.slice none 0 0] 227)=W2 at*;have s3:=ak W2 (.map #[] 0);have m3:iV 54 (W2.alloc (.map #[] 0)) W2.heap.size 0 (iZ []) (fun x=>decide (x∈eL [])):=(iV.made W2 _).ext (fun _=>rfl) (fun x=>by simp[eL]);have a3:=(Below.refl W2.heap.size W2).alloc (ah _) (.map #[] 0);generalize W2.alloc (.map #[] 0)=W3 at*;have s4:=ak W3 (.cells #[.pointer (some ⟨qg,0,none⟩),.slice none 0 0,.map (some (w.heap.size+1+1)),.slice none 0 0] 227);have g4:=eW.new W3 227 #[.pointer (some ⟨qg,0,none⟩),.slice none 0 0,.map (some (w.heap.size+1+1)),.slice none 0 0];have a4:=(Below.refl W3.heap.size W3).alloc (ah _) (.cells #[.pointer (some ⟨qg,0,none⟩),.slice none 0 0,.map (some (w.heap.size+1+1)),.slice none 0 0] 227);generalize W3.alloc (.cells #[.pointer (some ⟨qg,0,none⟩),.slice none 0 0,.map (some (w.heap.size+1+1)),.slice none 0 0] 227)=W4 at*;have s5:=ak W4 (.cells #[.pointer (some ⟨w.heap.size+1,0,none⟩),.pointer (some ⟨w.heap.size+1+1+1,0,none⟩),.slice none 0 0,.int .i64 0,.slice none 0 0,.int .i64 0] 289);have g5:=eW.new W4 289 #[.pointer (some ⟨w.heap.size+1,0,none⟩),.pointer (some ⟨w.heap.size+1+1+1,0,none⟩),.slice none 0 0,.int .i64 0,.slice none 0 0,.int .i64 0];have a5:=(Below.refl W4.heap.size W4).alloc (ah _) (.cells #[.pointer (some ⟨w.heap.size+1,0,none⟩),.pointer (some ⟨w.heap.size+1+1+1,0,none⟩),.slice none 0 0,.int .i64 0,.slice none 0 0,.int .i64 0] 289);generalize W4.alloc (.cells #[.pointer (some ⟨w.heap.size+1,0,none⟩),.pointer (some ⟨w.heap.size+1+1+1,0,none⟩),.slice none 0 0,.int .i64 0,.slice none 0 0,.int .i64 0] 289)=W5 at*;have b35:=eF a4 a5;have b25:=eF a3 b35;have b15:=eF a2 b25;rw[s4,s3,s2,s1]at g5;rw[s3,s2,s1]at g4;rw[s1]at g2;rw[s2,s1]at m3;refine⟨eF b1 b15,⟨g5,⟨g2.below b25 (by omega),hn _ _ _,hn _ _ _,m1.below b15,by dsimp only;omega,by dsimp only;omega,by omega⟩,⟨g4.below a5 (by omega),hn _ _ _,hn _ _ _,m3.below b35,by dsimp only;omega,by dsimp only;omega,by omega⟩,hn _ _ _,rfl,(fun i hi=>by simp at hi),by dsimp only;omega,by dsimp only;omega,by dsimp only;omega,(fun k h=>by cases h),(fun k h=>by cases h)⟩⟩
theorem FP {w:World}{p q:HP}{g h:HM}{lg lh:List Ob}(HA:fO w p g)(GA:g.Good lg)(HB:fO w q h)(GB:h.Good lh)(sp:eX w)(ser:Bool)(A1 A2:Option Addr)(n1 n2 c1 c2:Nat)(a b:List Nat)(Qq:n1<=9223372036854775807)(SD:n2<=9223372036854775807)
 (Oy:eQ w w.heap.size 1 A1 n1 (eN a))(K3:eQ w w.heap.size 1 A2 n2 (eN b))(BV:∀ y∈a,y<4294967296)(B5:∀ y∈b,y<4294967296):
 Calls Tryz.prog 127 #[ptr p.g,ptr q.g,.bool ser,.slice A1 n1 c1,.slice A2 n2 c2] w (OL g h ser a b w):=by
 have vk:a.length=n1:=by have:=Oy.1;rw[eY]at this;omega
 have Fa:b.length=n2:=by have:=K3.1;rw[eY]at this;omega
 have Oc:=aa (fun (w':World) (hb:Below w.heap.size w w')=>wM (HA.below hb) GA.fit A1 n1 c1 a Qq ((Oy.below hb).more hb.size) BV);have jC:=aa (fun (w':World) (hb:Below w.heap.size w w')=>wM (HB.below hb) GB.fit A2 n2 c2 b SD ((K3.below hb).more hb.size) B5);have l7:=aa (fun (w':World) (hb:Below w.heap.size w w') (hf:g.apn a=true)=>DM (c:=c1) (HA.below hb) GA (sp.below hb) A1 n1 a Qq ((Oy.below hb).more hb.size) BV hf);have Oj:=aa (fun (w':World) (hb:Below w.heap.size w w') (hf:h.apn b=true)=>DM (c:=c2) (HB.below hb) GB (sp.below hb) A2 n2 b SD ((K3.below hb).more hb.size) B5 hf);have j8:=aa ((Below.refl w.heap.size w).alloc (ah _) (.cells #[.int .i64 0,.slice none 0 0,.int .i64 0] 213));have BD:=aa (eW.new w 213 #[.int .i64 0,.slice none 0 0,.int .i64 0]);have HX:=aa (And.intro HA (And.intro HB (And.intro Oy (And.intro K3 (And.intro BV (And.intro B5 (And.intro vk Fa)))))));have hDn:=fun (w':World) (hb:Below w.heap.size w w')=> @I_ g h ser a b w w' hb;have Oa:=aa hDn;unfold ptr at Oc jC l7 Oj;unfold ptr;clear HA HB Oy K3 BV B5 hDn;cases Ot:g.apn a
 case false=>
  have HE:=aa (show lH g h a b=3 by unfold lH;rw[Ot];rfl);rw[Ot]at Oc;clear Ot vk Fa;go_enter Tryz.func127,Tryz.ntmps127;go_wp2_with fail;refine (Oc.o _ j8.o).mono ?_;rintro e w1 ⟨rfl,hb1⟩;have ko:=aa (eF j8.o hb1);have oh:=BD.o.below hb1 BD.o.lt;have d0:=oh.cell 0;have d1:=oh.cell 1;have d2:=oh.cell 2;have z0:=oh.frozen 0;have z1:=oh.frozen 1;have z2:=oh.frozen 2;have BS:=oh.ap1 (.int .i64 0) (.slice none 0 0) (.int .i64 0);have jc:=aa BS;have hlS:w.heap.size<=w.heap.size:=ah _;clear BS oh;go_wp2_with fail;have f0:=jc.o.cell 0;have f1:=jc.o.cell 1;have f2:=jc.o.cell 2;refine bodyPost_ret (v:=.tuple #[.agg #[.int .i64 0,.slice none 0 0,.int .i64 0],.int .i64 3]) (by simp[results,Tryz.results127,go_sem,f0,f1,f2]) rfl ?_;have gS:=Oa.o _ (((ko.o.setCell (p:=⟨w.heap.size,0,none⟩) (ah _) (.int .i64 0)).setCell (p:=⟨w.heap.size,1,none⟩) (ah _) (.slice none 0 0)).setCell (p:=⟨w.heap.size,2,none⟩) (ah _) (.int .i64 0)) (by rw[HE.o];decide);rw[HE.o]at gS;exact gS
 case true=>
  rw[Ot]at Oc;cases Jl:h.apn b
  case false=>
   have HE:=aa (show lH g h a b=3 by unfold lH;rw[Jl,if_neg (by simp)]);rw[Jl]at jC;clear Ot Jl vk Fa;go_enter Tryz.func127,Tryz.ntmps127;go_wp2_with fail;refine (Oc.o _ j8.o).mono ?_;rintro e w1 ⟨rfl,hb1⟩;have ko:=aa (eF j8.o hb1);have Wa:=aa hb1;clear hb1;go_wp2_with fail;refine (jC.o _ ko.o).mono ?_;rintro e w2 ⟨rfl,hb2⟩;have tM:=aa (eF ko.o hb2);have oa:=eF Wa.o hb2;have oh:=BD.o.below oa BD.o.lt;have d0:=oh.cell 0;have d1:=oh.cell 1;have d2:=oh.cell 2;have z0:=oh.frozen 0;have z1:=oh.frozen 1;have z2:=oh.frozen 2;have BS:=oh.ap1 (.int .i64 0) (.slice none 0 0) (.int .i64 0);have jc:=aa BS;have hlS:w.heap.size<=w.heap.size:=ah _;clear BS oh;go_wp2_with fail;have f0:=jc.o.cell 0;have f1:=jc.o.cell 1;have f2:=jc.o.cell 2;refine bodyPost_ret (v:=.tuple #[.agg #[.int .i64 0,.slice none 0 0,.int .i64 0],.int .i64 3]) (by simp[results,Tryz.results127,go_sem,f0,f1,f2]) rfl ?_;have gS:=Oa.o _ (((tM.o.setCell (p:=⟨w.heap.size,0,none⟩) (ah _) (.int .i64 0)).setCell (p:=⟨w.heap.size,1,none⟩) (ah _) (.slice none 0 0)).setCell (p:=⟨w.heap.size,2,none⟩) (ah _) (.int .i64 0)) (by rw[HE.o];decide);rw[HE.o]at gS;exact gS
  case true=>
   rw[Jl]at jC;have Ct:=aa (And.intro Ot Jl);replace l7:=aa (fun w' hb=>l7.o w' hb Ot);replace Oj:=aa (fun w' hb=>Oj.o w' hb Jl);have HEE:=aa (show lH g h a b=if a.length=b.length/\g.apv a=0/\h.apv b=0 then 0 else 2 by unfold lH;rw[if_pos ⟨Ot,Jl⟩]);have hs1:=Hm g a;have hs2:=Hm h b;have HHG:=aa (show g.apv a=0->∃ L,f_ g.nmN g.ao_ a=some L from fun e=>by
    unfold HM.apv at e
    cases hL:f_ g.nmN g.ao_ a with
    | none=>rw[hL]at e;simp at e
    | some L=>exact⟨L,rfl⟩)
   clear Ot Jl;generalize hS1:g.apv a=s1 at*;generalize hS2:h.apv b=s2 at*;have lK:=aa (And.intro hS1 hS2);clear hS1 hS2;go_enter Tryz.func127,Tryz.ntmps127;go_wp2_with fail;refine (Oc.o _ j8.o).mono ?_;rintro e w1 ⟨rfl,hb1⟩;have ko:=aa (eF j8.o hb1);have Wa:=aa hb1;clear hb1;go_wp2_with fail;refine (jC.o _ ko.o).mono ?_;rintro e w2 ⟨rfl,hb2⟩;have tM:=aa (eF ko.o hb2);have aeM:=aa (eF Wa.o hb2);clear hb2;go_wp2_with fail;refine (l7.o _ tM.o).mono ?_;rintro e w3 ⟨v3,rfl,hb3⟩;have ig:=aa (eF tM.o hb3);have aeN:=aa (eF aeM.o hb3);clear hb3;rw[lK.o.1];go_wp2_with fail;refine (Oj.o _ ig.o).mono ?_;rintro e w4 ⟨v4,rfl,hb4⟩;have yM:=aa (eF ig.o hb4);have SV:=aa (eF aeN.o hb4);clear hb4;rw[lK.o.2];by_cases hgo:n1=n2/\s1=0/\s2=0
   .obtain⟨rfl,rfl,rfl⟩:=hgo;obtain⟨L,hL⟩:=HHG.o rfl;have yR:=aa hL;have Tk:=aa (show L.length<=65536 from NN hL);have HE:=aa (show lH g h a b=0 by rw[HEE.o,if_pos ⟨vk.trans Fa.symm,rfl,rfl⟩]);have en:((n1:Int) != (n1:Int))=false:=(by simp);have SC:=@run_makeMap Tryz.prog;clear vk Fa hL hs1 hs2;go_wp2_with fail;obtain⟨hbw,PW⟩:=Nl SV.o p.g q.g;have hwk:=Mj hbw PW (HX.o.1.below j8.o) GA (HX.o.2.1.below j8.o) GB (sp.below j8.o) ser A1 A2 n1 c1 c2 a b Qq ((HX.o.2.2.1.below j8.o).more j8.o.size) ((HX.o.2.2.2.1.below j8.o).more j8.o.size) HX.o.2.2.2.2.1 HX.o.2.2.2.2.2.1 Ct.o.1 Ct.o.2 L yR.o Tk.o
    dsimp only at hwk
    have Sv:=aa hwk;unfold Li at Sv;clear hbw PW SC hwk;refine Sv.o.mono ?_;rintro e w6 ⟨rfl,jV,k3,⟨A6,c6,k4,acI,XO,abJ⟩,k5⟩
    dsimp only at k3 k4 k5 XO
    have U7:=aa abJ;clear abJ;have S_:=aa XO;have afC:=aa yM.o.size;clear XO;have lQ:=aa (j8.o.trans (jV.mono j8.o.size));have HV:=aa (show mM g h ser a b=mY g.nmN g.ao_ h.ao_ (g.odM h ser) a b by unfold mM;rw[if_pos HE.o]);have U3:=BD.o.below jV BD.o.lt;have d0:=U3.cell 0;have d1:=U3.cell 1;have d2:=U3.cell 2;have z0:=U3.frozen 0;have z1:=U3.frozen 1;have z2:=U3.frozen 2;generalize mY g.nmN g.ao_ h.ao_ (g.odM h ser) a b=d at*;have jc:=aa (U3.ap1 (.int .i64 d.kind) (.slice A6 d.path.length c6) (.int .i64 d.at_));have uN:=aa acI;clear jV U3 acI Sv;go_wp2_with fail;have f0:=jc.o.cell 0;have f1:=jc.o.cell 1;have f2:=jc.o.cell 2;refine bodyPost_ret (v:=.tuple #[.agg #[.int .i64 d.kind,.slice A6 d.path.length c6,.int .i64 d.at_],.int .i64 0]) (by simp[results,Tryz.results127,go_sem,f0,f1,f2]) rfl ?_;have kT:=((lQ.o.setCell (p:=⟨w.heap.size,0,none⟩) (ah _) (.int .i64 d.kind)).setCell (p:=⟨w.heap.size,1,none⟩) (ah _) (.slice A6 d.path.length c6)).setCell (p:=⟨w.heap.size,2,none⟩) (ah _) (.int .i64 d.at_);refine⟨kT,A6,c6,by rw[HV.o,HE.o];rfl,?_,by rw[HV.o];exact U7.o⟩;rw[HV.o];refine⟨uN.o.1,fun hn=>?_⟩;obtain⟨ad,e,hb,hc⟩:=uN.o.2 hn;have h1:=S_.o ad e;have h2:=afC.o;refine⟨ad,e,by simp[World.setCell];exact hb,fun j u hu=>?_⟩;have hne:(ad.add j).block≠w.heap.size:=(by rw[gi];omega);rw[aC _ _ _ _ (fun e=>hne (by rw[<-e])),aC _ _ _ _ (fun e=>hne (by rw[<-e])),aC _ _ _ _ (fun e=>hne (by rw[<-e]))];exact hc j u hu
   .have HE:=aa (show lH g h a b=2 by rw[HEE.o,if_neg (by rw[vk,Fa];exact hgo)]);by_cases CU:n1=n2
    .subst CU;have en:((n1:Int) != (n1:Int))=false:=(by simp);rcases hs1 with rfl|rfl
     .rcases hs2 with rfl|rfl
      .exact absurd ⟨rfl,rfl,rfl⟩ hgo
      .clear hgo vk Fa;have oh:=BD.o.below SV.o BD.o.lt;have d0:=oh.cell 0;have d1:=oh.cell 1;have d2:=oh.cell 2;have z0:=oh.frozen 0;have z1:=oh.frozen 1;have z2:=oh.frozen 2;have BS:=oh.ap1 (.int .i64 0) (.slice none 0 0) (.int .i64 0);have jc:=aa BS;have hlS:w.heap.size<=w.heap.size:=ah _;clear BS oh;go_wp2_with fail;have f0:=jc.o.cell 0;have f1:=jc.o.cell 1;have f2:=jc.o.cell 2;refine bodyPost_ret (v:=.tuple #[.agg #[.int .i64 0,.slice none 0 0,.int .i64 0],.int .i64 2]) (by simp[results,Tryz.results127,go_sem,f0,f1,f2]) rfl ?_;have gS:=Oa.o _ (((yM.o.setCell (p:=⟨w.heap.size,0,none⟩) (ah _) (.int .i64 0)).setCell (p:=⟨w.heap.size,1,none⟩) (ah _) (.slice none 0 0)).setCell (p:=⟨w.heap.size,2,none⟩) (ah _) (.int .i64 0)) (by rw[HE.o];decide);rw[HE.o]at gS;exact gS
     .clear hgo vk Fa hs2;have oh:=BD.o.below SV.o BD.o.lt;have d0:=oh.cell 0;have d1:=oh.cell 1;have d2:=oh.cell 2;have z0:=oh.frozen 0;have z1:=oh.frozen 1;have z2:=oh.frozen 2;have BS:=oh.ap1 (.int .i64 0) (.slice none 0 0) (.int .i64 0);have jc:=aa BS;have hlS:w.heap.size<=w.heap.size:=ah _;clear BS oh;go_wp2_with fail;have f0:=jc.o.cell 0;have f1:=jc.o.cell 1;have f2:=jc.o.cell 2;refine bodyPost_ret (v:=.tuple #[.agg #[.int .i64 0,.slice none 0 0,.int .i64 0],.int .i64 2]) (by simp[results,Tryz.results127,go_sem,f0,f1,f2]) rfl ?_;have gS:=Oa.o _ (((yM.o.setCell (p:=⟨w.heap.size,0,none⟩) (ah _) (.int .i64 0)).setCell (p:=⟨w.heap.size,1,none⟩) (ah _) (.slice none 0 0)).setCell (p:=⟨w.heap.size,2,none⟩) (ah _) (.int .i64 0)) (by rw[HE.o];decide);rw[HE.o]at gS;exact gS
    .have en:((n1:Int) != (n2:Int))=true:=(by simp;omega);clear hgo vk Fa hs1 hs2 CU;have oh:=BD.o.below SV.o BD.o.lt;have d0:=oh.cell 0;have d1:=oh.cell 1;have d2:=oh.cell 2;have z0:=oh.frozen 0;have z1:=oh.frozen 1;have z2:=oh.frozen 2;have BS:=oh.ap1 (.int .i64 0) (.slice none 0 0) (.int .i64 0);have jc:=aa BS;have hlS:w.heap.size<=w.heap.size:=ah _;clear BS oh;go_wp2_with fail;have f0:=jc.o.cell 0;have f1:=jc.o.cell 1;have f2:=jc.o.cell 2;refine bodyPost_ret (v:=.tuple #[.agg #[.int .i64 0,.slice none 0 0,.int .i64 0],.int .i64 2]) (by simp[results,Tryz.results127,go_sem,f0,f1,f2]) rfl ?_;have gS:=Oa.o _ (((yM.o.setCell (p:=⟨w.heap.size,0,none⟩) (ah _) (.int .i64 0)).setCell (p:=⟨w.heap.size,1,none⟩) (ah _) (.slice none 0 0)).setCell (p:=⟨w.heap.size,2,none⟩) (ah _) (.int .i64 0)) (by rw[HE.o];decide);rw[HE.o]at gS;exact gS
def AC (g h:HM)(ser:Bool)(a b:List Nat):Bool:=decide (lH g h a b=0/\(mM g h ser a b).kind=0)
theorem CL {w:World}{p q:HP}{g h:HM}{lg lh:List Ob}(HA:fO w p g)(GA:g.Good lg)(HB:fO w q h)(GB:h.Good lh)(sp:eX w)(ser:Bool)(A1 A2:Option Addr)(n1 n2 c1 c2:Nat)(a b:List Nat)(Qq:n1<=9223372036854775807)(SD:n2<=9223372036854775807)
 (Oy:eQ w w.heap.size 1 A1 n1 (eN a))(K3:eQ w w.heap.size 1 A2 n2 (eN b))(BV:∀ y∈a,y<4294967296)(B5:∀ y∈b,y<4294967296):
 Calls Tryz.prog 57 #[ptr p.g,ptr q.g,.bool ser,.slice A1 n1 c1,.slice A2 n2 c2] w (Told (.bool (AC g h ser a b)) w):=by
 have HD:=aa (FP HA GA HB GB sp ser A1 A2 n1 n2 c1 c2 a b Qq SD Oy K3 BV B5);have HS:=aa (show AC g h ser a b=decide (lH g h a b=0/\(mM g h ser a b).kind=0) from rfl);rw[HS.o];unfold OL at HD;clear HA HB Oy K3 BV B5;unfold ptr at HD ⊢;generalize mM g h ser a b=d at*;generalize lH g h a b=E at*;have hc:(decide (E=0/\d.kind=0))=(decide (E=0) && decide (d.kind=0)):=by simp
 rw[hc];clear hc;by_cases h0:E=0
 .subst h0;by_cases h1:d.kind=0
  .have e1:((d.kind:Int) == 0)=true:=(by rw[h1];rfl);have HR:=aa (show (decide ((0:Nat)=0) && decide (d.kind=0))=true by rw[h1];rfl);rw[HR.o];clear h1;go_enter Tryz.func57,Tryz.ntmps57;go_wp2_with fail;refine HD.o.mono ?_;rintro e w1 ⟨hb1,A,c,rfl,-⟩;have ko:=aa (hb1.alloc hb1.size (.cells #[.int .i64 d.kind,.slice A d.path.length c,.int .i64 d.at_] 213));clear hb1;go_wp2_with fail;go_ret;exact⟨rfl,ko.o⟩
  .have e1:((d.kind:Int) == 0)=false:=(by simp;omega);have HR:=aa (show (decide ((0:Nat)=0) && decide (d.kind=0))=false by simp[h1]);rw[HR.o];clear h1;go_enter Tryz.func57,Tryz.ntmps57;go_wp2_with fail;refine HD.o.mono ?_;rintro e w1 ⟨hb1,A,c,rfl,-⟩;have ko:=aa (hb1.alloc hb1.size (.cells #[.int .i64 d.kind,.slice A d.path.length c,.int .i64 d.at_] 213));clear hb1;go_wp2_with fail;go_ret;exact⟨rfl,ko.o⟩
 .have e1:((E:Int) == 0)=false:=by simp;omega
  have HR:=aa (show (decide (E=0) && decide (d.kind=0))=false by simp[h0]);rw[HR.o];clear h0;go_enter Tryz.func57,Tryz.ntmps57;go_wp2_with fail;refine HD.o.mono ?_;rintro e w1 ⟨hb1,A,c,rfl,-⟩;have ko:=aa (hb1.alloc hb1.size (.cells #[.int .i64 d.kind,.slice A d.path.length c,.int .i64 d.at_] 213));clear hb1;go_wp2_with fail;go_ret;exact⟨rfl,ko.o⟩
end
section
open Go.RowKit
theorem Dl:∀ (l m:List Nat),l.Nodup->(∀ x∈l,x∈m)->l.length<=m.length
 | [],_,_,_=>by simp
 | x :: l,m,hd,h=>by
   have qY:=List.nodup_cons.1 hd;have hx:=h x (List.mem_cons_self ..);have:=Dl l (m.erase x) qY.2 (fun y hy=>(List.mem_erase_of_ne (show y≠x from fun e=>by subst e;exact qY.1 hy)).2 (h y (List.mem_cons_of_mem _ hy)));rw[List.length_erase_of_mem hx]at this;have h1:0<m.length:=List.length_pos_of_mem hx;rw[aF];omega
theorem tX {h:HM}{ls:List Ob}(G:h.Good ls){l:List Nd}(hd:(eL l).Nodup)(hi:∀ x∈eL l,h.isB x=true):3*l.length<=h.words.length:=by
 have h1:=Dl (eL l) ((aD ls.length).map fun k=>2*eG (ls.take k)) hd (fun x hx=>by
  obtain⟨a,b,c,e,hx2⟩:=(G.laid.apr x).1 (hi x hx);rw[List.mem_map];refine⟨a.length,by rw[List.mem_range,e];simp,?_⟩;rw[hx2,e,List.take_left])
 rw[fI,aB,az]at h1;have h2:=E5 ls;have h3:=congrArg List.length G.laid.words;rw[aF]at h3;omega
theorem CD {h:HM}{ls:List Ob}(G:h.Good ls)(hw:h.words.length<=196608):∀ (f i:Nat) (l:List Nd),(eL l).Nodup->(∀ x∈eL l,h.isB x=true)->i<=l.length->65537<=f+i->(nH h.nmN h.ao_ f i l).isSome=true
 | 0,i,l,hd,hi,hil,hf=>by have:=tX G hd hi;omega
 | f + 1,i,l,hd,hi,hil,hf=>by
   unfold nH;split
   .rename_i hlt;have qY:(eL (h_ h.nmN h.ao_ l i)).Nodup:=rF _ _ hd _
    have kM:h.isB (l.getD i default).o=true:=hi _ (by
     rw[<-oops_oAt' l i hlt];exact ax _)
    have uE:∀ x∈eL (h_ h.nmN h.ao_ l i),h.isB x=true:=pw _ hi _ (fun k hk h2=>pX G kM hk h2) _ (ah _);have hb:=tX G qY uE;rw[if_neg (by omega)];have hp:=(uq h.nmN h.ao_ l i).length_le;exact CD G hw f (i+1) _ qY uE (by omega) (by omega)
   .rfl
where
 oops_oAt' (l:List Nd) (i:Nat) (hi:i<l.length):(eL l)[i]'(by rw[fI];exact hi)=(l.getD i default).o:=by
  unfold eL;rw[List.getElem_map,aj,aq hi];rfl
theorem Hn {h:HM}{ls:List Ob}(G:h.Good ls)(hw:h.words.length<=196608){fr:List Nat}(hf:h.apn fr=true):h.apv fr=0:=by
 have hd:=ou fr fr.length;have hi:∀ x∈eL (iX fr fr.length),h.isB x=true:=lI fr (uZ hf) _ (ah _);have hb:=tX G hd hi;have hs:(f_ h.nmN h.ao_ fr).isSome=true:=by
  unfold f_;rw[if_neg (by omega)];exact CD G hw 65538 0 _ hd hi (aL _) (by omega)
 unfold HM.apv;rw[if_pos hs]
theorem zm {g h:HM}{a b:List Nat}(h1:g.apn a=true)(h2:h.apn b=true)(hl:a.length=b.length)(h3:g.apv a=0)(h4:h.apv b=0):lH g h a b=0:=by
 unfold lH;rw[if_pos ⟨h1,h2⟩,if_pos ⟨hl,h3,h4⟩]
theorem DL {g h:HM}{ser:Bool}{a b:List Nat}:AC g h ser a b=true↔lH g h a b=0/\onD g.nmN g.ao_ h.ao_ (g.odM h ser) a b:=by
 unfold AC;rw[decide_eq_true_eq];constructor
 .rintro⟨e,hk⟩;unfold mM at hk;rw[if_pos e]at hk;exact⟨e,(zl (fun o q k x=>GW o q k x) a b).1 hk⟩
 .rintro⟨e,ho⟩;refine⟨e,?_⟩;unfold mM;rw[if_pos e];exact (zl (fun o q k x=>GW o q k x) a b).2 ho
theorem J9 {g:HM}{ser:Bool}{a:List Nat}(h1:g.apn a=true)(h2:g.apv a=0):AC g g ser a a=true:=
 DL.2 ⟨zm h1 h1 rfl h2 h2,Q9 (Q6 g ser) a⟩
theorem Je {h:HM}{ls:List Ob}(G:h.Good ls)(n:Nat):h.apn (h.roots.take n)=true:=by
 unfold HM.apn;simp only[Bool.not_eq_true',List.any_eq_false];intro x hx;simp[G.sound.roots x (aP hx)]
end
section
open Go.RowKit
def Kd (xs:List Nat):ByteArray:=strOfNums (xs.map fun x:Nat=>(x:Int))
theorem o_ {w:World}{base n:Nat}{v:Value}{xs:List Nat}(h:w.ownsRow base 5 1 v n (fP xs)):
 (convert 22 9 v).run Tryz.prog w= .ok (.string (Kd xs)) w:=by
 have hl:xs.length=n:=by have:=h.1;simpa[fP] using this
 rcases Nat.eq_zero_or_pos n with h0|h0
 .have hx:xs=[]:=List.eq_nil_of_length_eq_zero (by omega);subst hx;have e:Kd []=ByteArray.empty:=by unfold Kd strOfNums;rfl
  obtain⟨A,c,rfl,hr⟩:=fF h;rw[e];rcases h.2 with ⟨h1,_⟩|⟨g,cap,cur,h1,_⟩
  .injection h1 with h1 h2 h3;subst h1;exact run_convert_bytes_nil w 22 5 Tryz.underlying22 Tryz.underlying5 n c _ Tryz.underlying9
  .injection h1 with h1 h2 h3;subst h1;have:=run_convert_bytes_arg (P:=Tryz.prog) w 22 5 Tryz.underlying22 Tryz.underlying5 g 0 0 c [] rfl (fun i hi=>by omega) _ Tryz.underlying9;rw[h0];exact this
 .obtain⟨g,c,rfl,hr,-,-⟩:=Row.apk h h0;refine run_convert_bytes_arg (P:=Tryz.prog) w 22 5 Tryz.underlying22 Tryz.underlying5 g 0 n c (xs.map fun x:Nat=>(x:Int)) (by simp[hl]) (fun i hi=>?_) _ Tryz.underlying9;rw[Nat.zero_add];refine hr.cell ?_;unfold fP;rw[aI,aq (by omega),aj,aI,aq (by omega)];rfl
end
end Go.Proofs.YtlkahgagmfhdaaaGreatDoor
