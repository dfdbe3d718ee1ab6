import Derived.Test.YtlkahgagmfhdaaaGreatDoorJMarks
set_option linter.unusedVariables false
set_option linter.unusedSimpArgs false
set_option linter.unusedSectionVars false
open List renaming setIfInBounds_toArray→ae,set_cons_zero→af,set_cons_succ→ag,finRange→ah,append_toArray→aw,size_toArray→ay,push_toArray→az,length_cons→aA,cons_append→aB,length_nil→aD,nil_append→aF
open Go.World renaming size_alloc→ai,block_lt_of_cell?→aq
open Go.Act renaming put→aj
open Nat renaming le_refl→ak,le_trans→ax,reduceAdd→aG,reduceSub→aH
open Array renaming replicate_succ→ar,replicate_zero→au
set_option maxRecDepth 100000
set_option maxHeartbeats 4000000
namespace Go.Proofs.YtlkahgagmfhdaaaGreatDoor
section
open Go.RowKit
attribute [local go_sem] Oper.semAt_some
theorem td.apw {B sg mb g:Nat}{L:List Nat}{w w':World}{row:Option Nat}(S:td w sg mb g L)(hm:mb<B)(hg:w.grownBy w' row)(hr:∀ r,row=some r->B<=r/\∃ o:Obj,w.heap[r]? = some o/\o.isCells=false):td w' sg mb g L:=by
 refine⟨S.box.same (hg.block _ S.box.lt (fun e=>?_)),S.map.same (hg.block _ S.map.lt (fun e=>by have:=(hr mb e.symm).1;omega))⟩;obtain⟨_,o,ho,hc⟩:=hr sg e.symm;have hb:=S.box;unfold eW at hb;rw[hb]at ho;injection ho with ho;subst ho;cases hc
theorem uU {B g:Nat}{w w':World}{row:Option Nat}{t:TypeId}{cs:Array Value}(b:eW w g t cs)(hg:w.grownBy w' row)(hr:∀ r,row=some r->B<=r/\∃ o:Obj,w.heap[r]? = some o/\o.isCells=false):eW w' g t cs:=
 b.same (hg.block g b.lt (fun e=>by
  obtain⟨_,o,ho,hc⟩:=hr g e.symm;unfold eW at b;rw[b]at ho;injection ho with ho;subst ho;cases hc))
def Xl (g:Nat)(L:List Nat)(w:World)(e:Ending)(w':World):Prop:=
 ∃ sg mb,e= .returned (.pointer (some ⟨sg,0,none⟩))/\td w' sg mb g L/\w.heap.size<=sg/\w.heap.size<=mb/\Below w.heap.size w w'
theorem EH {w:World}{p:HP}{h:HM}{l:List Ob}(H:fO w p h)(G:h.Good l)(hs:eX w):
 Calls Tryz.prog 106 #[ptr p.g] w (Xl p.g (eZ l) w):=by
 refine (callsIn_wide (n:=6)).1 ?_;refine callsIn_of_wp_marks Tryz.func106 rfl trivial ?_ rfl;simp only[Tryz.ntmps106,ay,aA,aD,aG,aH,ar,au,az,aw,aF,aB];unfold ptr;have SC:=@run_makeMap Tryz.prog;gi_wp2_with fail;refine⟨trivial,(callsIn_wide.2 (uT p.g _)).mono ?_⟩;rintro e W2 ⟨rfl,rfl⟩;have hsz:((((w.alloc (.map #[] 0)).alloc (.cells #[.pointer (some ⟨p.g,0,none⟩),.map (some w.heap.size)] 277)).alloc (.cells #[.pointer (some ⟨w.heap.size+1,0,none⟩)] 192)).alloc (.cells #[ptr p.g] 23)).heap.size=w.heap.size+4:=by simp
 have M0:=oG.made w 54;have S0:td ((((w.alloc (.map #[] 0)).alloc (.cells #[.pointer (some ⟨p.g,0,none⟩),.map (some w.heap.size)] 277)).alloc (.cells #[.pointer (some ⟨w.heap.size+1,0,none⟩)] 192)).alloc (.cells #[ptr p.g] 23)) (w.heap.size+1) w.heap.size p.g []:=by
  have b0:=eW.new (w.alloc (.map #[] 0)) 277 #[.pointer (some ⟨p.g,0,none⟩),.map (some w.heap.size)];rw[ai]at b0;exact⟨(b0.alloc _).alloc _,((M0.below ((Below.refl _ _).alloc (ak _) _)).below ((Below.refl _ _).alloc (ak _) _)).below ((Below.refl _ _).alloc (ak _) _)⟩
 have B0:eW ((((w.alloc (.map #[] 0)).alloc (.cells #[.pointer (some ⟨p.g,0,none⟩),.map (some w.heap.size)] 277)).alloc (.cells #[.pointer (some ⟨w.heap.size+1,0,none⟩)] 192)).alloc (.cells #[ptr p.g] 23)) (w.heap.size+1+1) 192 #[.pointer (some ⟨w.heap.size+1,0,none⟩)]:=by
  have b0:=eW.new ((w.alloc (.map #[] 0)).alloc (.cells #[.pointer (some ⟨p.g,0,none⟩),.map (some w.heap.size)] 277)) 192 #[.pointer (some ⟨w.heap.size+1,0,none⟩)];rw[ai,ai]at b0;exact b0.alloc _
 have BH:eW ((((w.alloc (.map #[] 0)).alloc (.cells #[.pointer (some ⟨p.g,0,none⟩),.map (some w.heap.size)] 277)).alloc (.cells #[.pointer (some ⟨w.heap.size+1,0,none⟩)] 192)).alloc (.cells #[ptr p.g] 23)) (w.heap.size+1+1+1) 23 #[ptr p.g]:=by
  have b0:=eW.new (((w.alloc (.map #[] 0)).alloc (.cells #[.pointer (some ⟨p.g,0,none⟩),.map (some w.heap.size)] 277)).alloc (.cells #[.pointer (some ⟨w.heap.size+1,0,none⟩)] 192)) 23 #[ptr p.g];rw[ai,ai,ai]at b0;exact b0
 have Mm:Below w.heap.size w ((((w.alloc (.map #[] 0)).alloc (.cells #[.pointer (some ⟨p.g,0,none⟩),.map (some w.heap.size)] 277)).alloc (.cells #[.pointer (some ⟨w.heap.size+1,0,none⟩)] 192)).alloc (.cells #[ptr p.g] 23)):=
  ((((Below.refl _ w).alloc (ak _) _).alloc (by simp) _).alloc (by simp;omega) _).alloc (by simp;omega) _
 gi_wp2_with fail;unfold ptr at*;generalize (((w.alloc (.map #[] 0)).alloc (.cells #[.pointer (some ⟨p.g,0,none⟩),.map (some w.heap.size)] 277)).alloc (.cells #[.pointer (some ⟨w.heap.size+1,0,none⟩)] 192)).alloc (.cells #[.pointer (some ⟨p.g,0,none⟩)] 23)=W0 at*;clear M0 SC;have HI:=aa (show fO W0 p h/\eX W0 from⟨H.below Mm,hs.below Mm⟩);have hlt:=aq _ _ (hs 0 (by omega));simp only at hlt;have hroom:=G.fit.room;have Br:=G.fit.hi;have hlen:=ki G
 refine wpIn_rangeFunc_ownH (F:=Fence.wide) rfl (by omega) (gf:=129) (lb:=#[.pointer (some ⟨w.heap.size+1+1+1,0,none⟩)]) rfl trivial (enters_of Tryz.func129 (by kernel_rfl) rfl)
  (se HI.o.1 G HI.o.2 5 (w.heap.size+1+1+1) w.heap.size (BH.cell 0) hlt) qJ.trans (fun W l o o' _ h1 h2 _=>qJ.book W l o o' h1 h2) (Below.refl _ _) (fun _=>rfl)
  (fun pre W=>td W (w.heap.size+1) w.heap.size p.g (pre.map fun i=>2*eG (l.take i.1))/\eW W (w.heap.size+1+1) 192 #[.pointer (some ⟨w.heap.size+1,0,none⟩)]/\Below w.heap.size w W)
  (fun c pre W=>False)
  (fun pre A B row hs hg hr=>⟨hs.1.apw (by omega) hg hr,uU hs.2.1 hg hr,hs.2.2.grown hg hs.2.2.size (fun k e=>by have:=(hr k e).1;omega)⟩)
  (fun c pre A B row hs hg hr=>hs.elim)
  ⟨S0,B0,Mm⟩
  (fun x a' W=>a'={ tmps:=#[.pointer (some ⟨p.g,0,none⟩),undef,.pointer none,.pointer (some ⟨w.heap.size+1+1,0,none⟩),.int .u32 ((2*eG (l.take x.1):Nat):Int),.pointer (some ⟨p.g,0,none⟩),.map (some w.heap.size),.agg #[.pointer (some ⟨p.g,0,none⟩),.map (some w.heap.size)],.pointer (some ⟨w.heap.size+1,0,none⟩),.pointer (some ⟨p.g,0,none⟩),.func (.func 129) #[] #[.pointer (some ⟨w.heap.size+1+1+1,0,none⟩)],.int .u32 ((2*eG (l.take x.1):Nat):Int),(l[x.1]'x.2).x.val,undef,undef,undef,undef,undef,undef,undef,undef,undef,undef,undef,undef,undef],defers:=[] })
  (fun x a' _ X Y row hs hg hr=>hs)
  ?assign ?body ?done ?stop
 case assign=>
  rintro lp pre x W K hI hK;rw[show Ek l x=#[.int .u32 ((2*eG (l.take x.1):Nat):Int),(l[x.1]'x.2).x.val] from rfl];have Vb:=aa hI;have HK:=aa hK;clear hK hI;generalize (l[x.1]'x.2).x.val=X at*;generalize 2*eG (l.take x.1)=o at*;gi_wp2_with fail;exact HK.o _ _ ((KeepsOthers.refl _).from _) (qJ.refl _ _ _) Vb.o rfl
 case body=>
  rintro lp pre x a' W hl Cb ⟨S1,B1,yB⟩ rfl Gl;have hpl:=iJ G x.1 x.2;have ho:2*eG (l.take x.1)<4294967296:=by omega
  have hmp:(pre++[x]).map (fun i=>2*eG (l.take i.1))=(pre.map fun i=>2*eG (l.take i.1))++[2*eG (l.take x.1)]:=by rw[List.map_append];rfl
  have hLl:(pre.map fun i=>2*eG (l.take i.1)).length<=1048576:=by rw[List.length_map];rw[fZ]at hlen;omega
  generalize (pre.map fun i=>2*eG (l.take i.1))=L at*;generalize 2*eG (l.take x.1)=o at*;generalize (l[x.1]'x.2).x.val=X at*;have hm:=RM L;have YK:=aa hmp;clear hpl hmp;apply wpIn_block;refine iL 12 (fun w'=>w'.cell? ⟨w.heap.size+1+1,0,none⟩=some (.pointer (some ⟨w.heap.size+1,0,none⟩))/\w'.cell? ⟨w.heap.size+1,1,none⟩=some (.map (some w.heap.size))/\∀ ty,(Builtin.len_ #[143] ty #[.map (some w.heap.size)]).run Tryz.prog w'= .ok (.int .i64 ((wh L).2.1:Nat)) w') (by kernel_rfl) (by kernel_rfl) ?_;have jv:Below W.heap.size W W.drew:=⟨rfl,rfl,rfl,ak _,fun _ _=>rfl⟩;have S2:=S1.below jv;have B2:=B1.below jv B1.lt;have KO:=eF yB jv;have hwc:IntKind.u32.wrap (((wh L).2.1:Int)+1)=((wh L).2.1:Int)+1:=by show (((wh L).2.1:Int)+1)%4294967296=_;omega
  have hwi:IntKind.i64.wrap (((wh L).2.1:Int)+1)=((wh L).2.1:Int)+1:=IntWalk.i64_in _ (by omega);have yr:=aa jv;clear S1 B1 yB jv;generalize W.drew=W7 at*;obtain⟨W9,CX,Ko,yC⟩:=S2.map.put wY ho (by omega);obtain⟨mes,mc,hmo⟩:=S2.map.obj;have hS:W7.cell? ⟨w.heap.size+1+1,0,none⟩=some (.pointer (some ⟨w.heap.size+1,0,none⟩))/\W7.cell? ⟨w.heap.size+1,1,none⟩=some (.map (some w.heap.size))/\∀ ty,(Builtin.len_ #[143] ty #[.map (some w.heap.size)]).run Tryz.prog W7= .ok (.int .i64 ((wh L).2.1:Nat)) W7:=⟨B2.cell 0,S2.box.cell 1,fun ty=>S2.map.len wY ty⟩;have gN:=aa (show KeepsFrom W0.heap.size W W9/\qJ w.heap.size W0.heap.size W W9/\td W9 (w.heap.size+1) w.heap.size p.g ((pre++[x]).map fun i=>2*eG (l.take i.1))/\eW W9 (w.heap.size+1+1) 192 #[.pointer (some ⟨w.heap.size+1,0,none⟩)]/\Below w.heap.size w W9 from by
   have hb:=yr.o;have hne:∀ k,k<W7.heap.size->k≠w.heap.size->W9.heap[k]? = W7.heap[k]? :=fun k hk hn=>yC.block k hk (fun e=>hn (by injection e));refine⟨⟨ax hb.size yC.size,fun k o' hk l_ hc=>?_⟩,⟨yC.os.trans hb.os,yC.tape.trans hb.tape,yC.output.trans hb.output,ax hb.size yC.size,fun k cs t fr hk hh=>?_⟩,⟨S2.box.same (hne _ S2.box.lt (by omega)),by rw[YK.o];exact Ko⟩,B2.same (hne _ B2.lt (by omega)),KO.grown yC KO.size (fun k e=>by injection e with e;omega)⟩
   .have h1:=fA l_;have h2:=hb.size;exact (hne k (by omega) (by omega)).trans ((hb.block k h1).trans l_)
   .have h1:=fA hh;have h2:=hb.size;have h3:=(hb.block k h1).trans hh;exact (hne k (by omega) (fun e=>by subst e;rw[hmo]at h3;injection h3 with h3;cases h3)).trans h3)
  clear S2 B2 KO Ko yC hmo;refine eT 0 (v:=(.pointer (some ⟨w.heap.size+1,0,none⟩))) rfl (by kernel_rfl) (fun _ _ _ h=>h) hS (by rfl) (fun w' hw'=>by obtain⟨h0,h1,h2⟩:=hw';go_simp) ?_;try simp only[aj,ae,af,ag]
  refine eT 1 (v:=(.pointer (some ⟨w.heap.size+1,0,none⟩))) rfl (by kernel_rfl) (fun _ _ _ h=>h) hS (by rfl) (fun w' hw'=>by obtain⟨h0,h1,h2⟩:=hw';go_simp) ?_;try simp only[aj,ae,af,ag]
  refine eT 2 (v:=(.pointer (some ⟨w.heap.size+1,1,none⟩))) rfl (by kernel_rfl) (fun _ _ _ h=>h) hS (by rfl) (fun w' hw'=>by obtain⟨h0,h1,h2⟩:=hw';go_simp) ?_;try simp only[aj,ae,af,ag]
  refine eT 3 (v:=(.map (some w.heap.size))) rfl (by kernel_rfl) (fun _ _ _ h=>h) hS (by rfl) (fun w' hw'=>by obtain⟨h0,h1,h2⟩:=hw';go_simp) ?_;try simp only[aj,ae,af,ag]
  refine eT 4 (v:=(.int .u32 (o:Int))) rfl (by kernel_rfl) (fun _ _ _ h=>h) hS (by rfl) (fun w' hw'=>by obtain⟨h0,h1,h2⟩:=hw';go_simp) ?_;try simp only[aj,ae,af,ag]
  refine eT 5 (v:=(.pointer (some ⟨w.heap.size+1,0,none⟩))) rfl (by kernel_rfl) (fun _ _ _ h=>h) hS (by rfl) (fun w' hw'=>by obtain⟨h0,h1,h2⟩:=hw';go_simp) ?_;try simp only[aj,ae,af,ag]
  refine eT 6 (v:=(.pointer (some ⟨w.heap.size+1,0,none⟩))) rfl (by kernel_rfl) (fun _ _ _ h=>h) hS (by rfl) (fun w' hw'=>by obtain⟨h0,h1,h2⟩:=hw';go_simp) ?_;try simp only[aj,ae,af,ag]
  refine eT 7 (v:=(.pointer (some ⟨w.heap.size+1,1,none⟩))) rfl (by kernel_rfl) (fun _ _ _ h=>h) hS (by rfl) (fun w' hw'=>by obtain⟨h0,h1,h2⟩:=hw';go_simp) ?_;try simp only[aj,ae,af,ag]
  refine eT 8 (v:=(.map (some w.heap.size))) rfl (by kernel_rfl) (fun _ _ _ h=>h) hS (by rfl) (fun w' hw'=>by obtain⟨h0,h1,h2⟩:=hw';go_simp) ?_;try simp only[aj,ae,af,ag]
  refine eT 9 (v:=(.int .i64 ((wh L).2.1:Int))) rfl (by kernel_rfl) (fun _ _ _ h=>h) hS (by rfl) (fun w' hw'=>by obtain⟨h0,h1,h2⟩:=hw';go_simp) ?_;try simp only[aj,ae,af,ag]
  refine eT 10 (v:=(.int .i64 (((wh L).2.1:Int)+1))) rfl (by kernel_rfl) (fun _ _ _ h=>h) hS (by rfl) (fun w' hw'=>by obtain⟨h0,h1,h2⟩:=hw';go_simp) ?_;try simp only[aj,ae,af,ag]
  refine eT 11 (v:=(.int .u32 (((wh L).2.1:Int)+1))) rfl (by kernel_rfl) (fun _ _ _ h=>h) hS (by rfl) (fun w' hw'=>by obtain⟨h0,h1,h2⟩:=hw';go_simp) ?_;try simp only[aj,ae,af,ag]
  refine fh 12 (by kernel_rfl) rfl rfl (fun K hK=>?_);go_simp;refine hK _ _ (fun h=>absurd h (by decide)) ?_;clear hK K;try simp only[aj,ae,af,ag]
  refine g_ (by kernel_rfl) ?_ _;simp only[Calm,Exit.then];exact gN.o
 case done=>
  rintro D xs W hD rfl ⟨S1,B1,yB⟩ hK;rw[Rc]at S1;have c1:=B1.cell 0;have ux:=aa (And.intro S1 yB);clear S1 B1 yB;gi_wp2_with fail;refine⟨by simp,.inl ⟨_,_,rfl,run_takeDeferred hK,?_⟩⟩;have hc:=ux.o.1.apw (B:=W0.heap.size) (by omega) (grownBy_putObj' W D (.deferred none)) (fun r e=>by cases e;exact⟨hD,_,hK,rfl⟩);refine⟨.pointer (some ⟨w.heap.size+1,0,none⟩),by simp[results,Tryz.results106,go_sem],_,_,rfl,hc,by omega,by omega,?_⟩;exact ux.o.2.trans (belowK_b (w:=w) (ak _) _ D _ _ (by omega) hK rfl rfl)
 case stop=>
  rintro D c pre W hD hp hx hK;exact hx.elim
end
section
open Go.RowKit
attribute [local go_sem] Oper.semAt_some
structure Vn (Kp:World->World->Prop) (n0:Nat) (h:HM):Prop where
 heap:∀ {A B:World} {pc:HP},Kp A B->(∀ j,pc.has j->n0<=j)->fO A pc h->fO B pc h
 apl:∀ {A B:World},Kp A B->eX A->eX B
theorem IM {w:World}{p:HP}{h:HM}{l:List Ob}(H:fO w p h)(G:h.Good l)(hs:eX w)(n Bh:Nat)(B_:w.cell? ⟨Bh,0,none⟩=some (ptr p.g))(Kp:World->World->Prop)(K:Vn Kp w.heap.size h):
 SeqStopsK Fence.wide n Tryz.prog 129 #[.pointer (some ⟨Bh,0,none⟩)] (Ek l) Kp (fun xs=>xs=ah l.length) (fun pre=>pre <+: ah l.length) l.length w:=
 fun lp J Jx W hW hJ XC hY h0=>by
 have hBh:=aq _ _ B_;have HW:=H.below hW;have B8:W.cell? ⟨Bh,0,none⟩=some (ptr p.g):=(hW.cell (p:=⟨Bh,0,none⟩) hBh).trans B_;have HC:=aa (r_ HW G.fit);have HsW:=hs.below hW;refine callsIn_of_wp Tryz.func129 rfl trivial ?_ rfl;simp only[Tryz.ntmps129,ay,aA,aD,aG,aH,ar,au,az,aw,aF,aB];unfold ptr at B8 HC;have HY:=aa hY;have KN:=aa K;have HJ:=aa (show ∀ s A B,J s A->Below A.heap.size A B->J s B from fun s A B hs hb=>hJ s A B none hs ⟨hb.os,hb.tape,hb.output,hb.size,fun k hk _=>hb.block k hk⟩ (fun r e=>by cases e));have OZ:=aa h0;have uQ:=aa hW;clear hY hJ XC h0 hW;gi_wp2_with fail;refine⟨trivial,fun hh=>(by cases hh),(callsIn_wide.2 HC.o).mono ?_⟩;rintro e W1 ⟨pc,rfl,Hc,mU,hb1⟩;have ZO:=HJ.o _ _ _ OZ.o hb1;have Hs1:=HsW.below hb1;have HN:=aa mU;have HF:=aa (wP Hc G.fit);rw[zq G]at HF;unfold ptr at HF;clear B8 mU;gi_wp2_with fail;refine⟨trivial,fun hh=>(by cases hh),(callsIn_wide.2 HF.o).mono ?_⟩;rintro e W2 ⟨rfl,rfl⟩;have HH:=aa (show fO W1 pc h/\eX W1/\J ((ah l.length).take 0) W1 from⟨Hc,Hs1,ZO⟩);clear Hc Hs1 ZO hb1;gi_wp2_with fail
 gi_loopw [4] (fun o wr=>∃ k:Nat,k<=l.length/\o= .int .u32 ((mi l k:Nat):Int)/\fO wr pc h/\eX wr/\J ((ah l.length).take k) wr) (fun o wr=>QU o)
 case atStart=>exact⟨0,by omega,rfl,HH.o.1,HH.o.2.1,HH.o.2.2⟩
 case round=>
  obtain⟨k,hk,rfl,Hk,hsk,hjk⟩:=hrel;by_cases hlt:k<l.length
  .have hroom:=G.fit.room;have Br:=G.fit.hi;have hpl:=iJ G k hlt;have Zc:=xa (l.take k);have hO:=aa (show mi l k=2*eG (l.take k) by unfold mi;rw[if_pos hlt]);have hN:=aa (Dk G k hlt);have hB:=zH G k hlt;have HX:=aa (zx G k hlt);have Cp:=aa (fun w=>tR pc.g (2*eG (l.take k)) (by omega) (rM _) w);have pN:=aa (fun w' (H:fO w' pc h) (hs:eX w')=>nK H G.fit hs (eG (l.take k)) (G.laid.heads _ (by unfold HM.isB at hB;simp only[Bool.and_eq_true,fT]at hB;exact hB.2)));have mn:=aa (fun w' (H:fO w' pc h) (hs:eX w')=>zR H G.fit G.laid.heads hs (2*eG (l.take k)) (by omega));have O4:=aa (show h.apW (2*eG (l.take k))= .tuple #[.int .u32 (mi l (k+1):Nat),.int .i64 0] by unfold HM.apW;rw[if_pos hB,hN.o]);have uy:=aa (show mi l (k+1)=0\/2*eG (l.take k)<mi l (k+1) by
    unfold mi;split
    .have:=kZ k hlt;right;omega
    .exact .inl rfl)
   have HMX:=aa (show mi l (k+1)<4294967296 by
    unfold mi;split
    .rename_i h1;have:=iJ G (k+1) h1;omega
    .omega)
   have oV:=aa (show (ah l.length).take k++[⟨k,hlt⟩]=(ah l.length).take (k+1) by
    rw[List.take_add_one,List.getElem?_eq_getElem (by simpa using hlt)];simp)
   have tO:=aa (show ((ah l.length).take k).length<l.length by simp;omega);have Zo:=aa (show Ek l ⟨k,hlt⟩=#[.int .u32 ((2*eG (l.take k):Nat):Int),.agg #[.int .i64 (l[k].x.size:Nat),.int .i64 (l[k].x.fmt:Nat),.int .i64 (l[k].x.spare:Nat),.int .u32 (l[k].x.cls:Nat),.int .u32 (l[k].x.ser:Nat)]] from rfl);have HXV:=aa (show (h.hd (eG (l.take k))).val= .agg #[.int .i64 (l[k].x.size:Nat),.int .i64 (l[k].x.fmt:Nat),.int .i64 (l[k].x.spare:Nat),.int .u32 (l[k].x.cls:Nat),.int .u32 (l[k].x.ser:Nat)] by rw[HX.o];rfl);have HK:=aa (show fO wr pc h/\eX wr/\J ((ah l.length).take k) wr from⟨Hk,hsk,hjk⟩);have HYk:=aa (fun W1 hj=>HY.o ((ah l.length).take k) ⟨k,hlt⟩ W1 hj tO.o);rw[Zo.o]at HYk;rw[hO.o];rw[HXV.o]at pN;rw[O4.o]at mn;rw[fT]at Cp;clear Hk hsk hjk hB hO HX hN HXV O4 Zo tO HH;generalize (⟨k,hlt⟩ :Fin l.length)=xk at*;generalize l[k].x=X at*;have ho:(((2*eG (l.take k):Nat):Int) != 0)=true:=(by simp;omega);have LM:=aa (show 2*eG (l.take k)<4294967296/\0<2*eG (l.take k) by omega);generalize hq:2*eG (l.take k)=o at*;clear hq;generalize eG (l.take k)=q at*;unfold ptr at Cp pN mn;gi_wp2_with fail;refine⟨trivial,fun hh=>(by cases hh),(callsIn_wide.2 (Cp.o _)).mono ?_⟩;rintro e W3 ⟨rfl,rfl⟩;gi_wp2_with fail;refine⟨trivial,fun hh=>(by cases hh),(callsIn_wide.2 (pN.o _ HK.o.1 HK.o.2.1)).mono ?_⟩;rintro e W4 ⟨rfl,hb4⟩;have O0:=aa (show fO W4 pc h/\eX W4/\J ((ah l.length).take k) W4 from⟨HK.o.1.below hb4,HK.o.2.1.below hb4,HJ.o _ _ _ HK.o.2.2 hb4⟩);clear hb4 HK;obtain⟨fn,tmps,assign,body,hy,hR⟩:=HYk.o W4 O0.o.2.2;gi_wp2_with fail;refine⟨fun hh=>(by cases hh),hR.mono ?_⟩;rintro e W5 (⟨rfl,PV,Jn⟩|⟨rfl,SG⟩)
   .have LJ:=aa (show fO W5 pc h/\eX W5/\J ((ah l.length).take (k+1)) W5 from
     ⟨KN.o.heap Jn (fun j hj=>ax uQ.o.size (HN.o j hj)) O0.o.1,KN.o.apl Jn O0.o.2.1,by rw[<-oV.o];exact PV⟩)
    clear PV Jn hy hR O0;gi_wp2_with fail;refine⟨trivial,fun hh=>(by cases hh),(callsIn_wide.2 (mn.o _ LJ.o.1 LJ.o.2.1)).mono ?_⟩;rintro e W6 ⟨rfl,jV⟩;have WD:=aa (show fO W6 pc h/\eX W6/\J ((ah l.length).take (k+1)) W6 from⟨LJ.o.1.below jV,LJ.o.2.1.below jV,HJ.o _ _ _ LJ.o.2.2 jV⟩);clear jV LJ;generalize hno:mi l (k+1)=no at*;have qX:=aa hno;clear hno;gi_wp2_with fail;go_roundw
    case rel=>exact⟨k+1,by omega,by rw[qX.o],WD.o.1,WD.o.2.1,WD.o.2.2⟩
    case measure=>exact K9 uy.o LM.o.2 LM.o.1 HMX.o
   .clear hy O0;gi_wp2_with fail;refine bodyPost_ret (results_none rfl _ _ _) rfl ?_;exact⟨⟨_,rfl⟩,.inr ⟨_,⟨(ah l.length).drop (k+1),by rw[oV.o,List.take_append_drop]⟩,SG⟩⟩
  .obtain rfl:k=l.length:=(by omega);have hO:=aa (show mi l l.length=0 by unfold mi;rw[if_neg hlt]);have yQ:=aa (show J (ah l.length) wr by have:=hjk;rw[List.take_of_length_le (by simp)]at this;exact this);rw[hO.o];clear Hk hsk hjk hlt hk;gi_wp2_with fail
   go_end0
   exact⟨⟨_,rfl⟩,.inl ⟨_,rfl,yQ.o⟩⟩
end
end Go.Proofs.YtlkahgagmfhdaaaGreatDoor
