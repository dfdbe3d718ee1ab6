import Derived.Test.YtlkahgagmfhdaaaGreatDoorJSoA
import Derived.Sort.WalkC4
set_option linter.unusedVariables false
set_option linter.unusedSimpArgs false
open Go.Sort renaming ltInt→ae,scanDown→ai,partition→aj,swp→ak,scanUp→aq,partLoop→au
open Go.World renaming drewN_drewN→af
open Go.Calls renaming quiet_of_same→ag
open Go.Value renaming int→ah
open Nat renaming le_refl→ar
open Or renaming inl→aw,inr→ax
set_option maxRecDepth 1000000
set_option maxHeartbeats 12800000
namespace Go.Proofs.YtlkahgagmfhdaaaGreatDoor
section
open Go.RowKit Go.Sort Go.Proofs
theorem EY (blk off cap a b pivot:Nat)(d:Array Int)(w:World)(hH:Holds (ah .u32) w blk off d)(hap:a<=pivot)(sw:pivot<b)(hb:b<=d.size)(hsz:d.size<4611686018427387904):
 Calls Tryz.prog 284 #[.slice (some ⟨blk,off,none⟩) d.size cap,.int .i64 a,.int .i64 b,.int .i64 pivot] w fun e w'=>
  e= .returned (.tuple #[.int .i64 (aj ae d a b pivot).1,.bool (aj ae d a b pivot).2.1])/\∃ n,w'=(putRow (ah .u32) w blk off (aj ae d a b pivot).2.2).drewN n:=by
 have vk:a<d.size:=by omega
 have Qp:pivot<d.size:=by omega
 obtain⟨G,hG⟩ :∃ G:Nat->Int,∀ j,G j=d[j]! :=⟨fun j=>d[j]!,fun _=>rfl⟩;have ca:w.cell? ⟨blk,off+a,none⟩=some (.int .u32 (G a)):=by rw[hG];exact (hH a vk).1
 have fa:=(hH a vk).2;have cp:w.cell? ⟨blk,off+pivot,none⟩=some (.int .u32 (G pivot)):=by rw[hG];exact (hH pivot Qp).1
 have fp:=(hH pivot Qp).2;obtain⟨v',hy'⟩:=cell?_setCell_some (w:=w) (p:=⟨blk,off+a,none⟩) (x:=.int .u32 (G pivot)) (q:=⟨blk,off+pivot,none⟩) cp;have hw:((w.setCell ⟨blk,off+a,none⟩ (.int .u32 (G pivot))).setCell ⟨blk,off+pivot,none⟩ (.int .u32 (G a))).drew=(putRow (ah .u32) w blk off (ak d a pivot)).drewN 1:=by
  have e:=swap_worldC (ah .u32) w blk off d 0 a pivot vk Qp;rw[putRow_self _ w blk off d hH]at e;rw[hG a,hG pivot];exact e
 have AH:ac (Holds (ah .u32) w blk off d):=hH;have Fl:=aa hw;clear hG hH hw;go_enter Tryz.func284,Tryz.ntmps284
 go_wp2
 go_region
 go_wp2
 clear ca fa cp fp hy' v';have hw:=Fl.o;clear Fl;generalize ((w.setCell ⟨blk,off+a,none⟩ (.int .u32 (G pivot))).setCell ⟨blk,off+pivot,none⟩ (.int .u32 (G a))).drew=W1 at hw ⊢;obtain⟨dk,Y4⟩ :∃ dk,dk=ak d a pivot:=⟨_,rfl⟩;obtain⟨n,hn⟩ :∃ n:Nat,n=1:=⟨_,rfl⟩;rw[<-Y4,<-hn]at hw;clear hn;have hs:dk.size=d.size:=by rw[Y4,size_swp]
 have e1:((a:Int)+1)=((a+1:Nat):Int):=by omega
 have e2:((b:Int)-1)=((b-1:Nat):Int):=by omega
 rw[e1,e2];clear e1 e2;obtain⟨i,hi⟩ :∃ i,i=a+1:=⟨_,rfl⟩;obtain⟨j,hj⟩ :∃ j,j=b-1:=⟨_,rfl⟩;rw[<-hi,<-hj];have hai:a<i:=by omega
 have SA:i<=j+1:=by omega
 have hjb:j<b:=by omega
 have HI:=aa hi;have HJ:=aa hj;have HDK:=aa Y4;clear hi hj Y4;have xG:Holds (ah .u32) W1 blk off dk:=by
  rw[hw];exact holds_putRow (ah .u32) w blk off d dk AH.o hs
 obtain⟨Gk,hG⟩ :∃ Gk:Nat->Int,∀ t,Gk t=dk[t]! :=⟨fun t=>dk[t]!,fun _=>rfl⟩;have hc:∀ t,t<d.size->W1.cell? ⟨blk,off+t,none⟩=some (.int .u32 (Gk t)):=fun t ht=>by rw[hG];exact (xG t (by omega)).1
 have hf:∀ t,t<d.size->W1.frozen? ⟨blk,off+t,none⟩=false:=fun t ht=>(xG t (by omega)).2;have AG:ac (∀ t,Gk t=dk[t]!):=hG;have AW:ac (W1=(putRow (ah .u32) w blk off dk).drewN n):=hw;clear hG hw xG
 go_loopw [10] (fun vi w1=>∃ (i' n1:Nat),vi= .int .i64 i'/\i<=i'/\i'<=j+1/\w1=W1.drewN n1/\
  ac (aq (fun x=>ae x dk[a]!) dk j i'=aq (fun x=>ae x dk[a]!) dk j i))
  (fun vi _=>j+1-(intOf vi).toNat)
 case atStart=>exact⟨i,0,rfl,ar _,SA,rfl,rfl⟩
 case round =>
  obtain⟨i',n1,rfl,hii,Gf,oq,hsc⟩:=hrel;have hcw:∀ t,t<d.size->wr.cell? ⟨blk,off+t,none⟩=some (.int .u32 (Gk t)):=fun t ht=>by rw[oq];exact hc t ht
  have wE:ac (wr=W1.drewN n1):=oq;clear oq;by_cases hle:i'<=j
  .go_wp2_with fail
   go_big_quiet (first|(go_at_call 282;refine ag (fc _ _ _)))
   go_wp2
   ·
    have ht:ae (Gk i') (Gk a)=true:=(by assumption);go_roundw
    case rel=>exact⟨i'+1,n1+nq,by go_num,by omega,by omega,by rw[wE.o,af],(scanUp_go (fun x=>ae x dk[a]!) dk j i' hle (by rw[<-AG.o a,<-AG.o i'];exact ht)).symm.trans hsc.out⟩
    case measure=>simp[intOf];omega
   ·
    have ht:ae (Gk i') (Gk a)=false:=(by assumption);have uE:ac (i'=aq (fun x=>ae x dk[a]!) dk j i):=(scanUp_end (fun x=>ae x dk[a]!) dk j i' (ax (by rw[<-AG.o a,<-AG.o i'];exact ht))).symm.trans hsc.out;clear ht;have hw2:wr.drewN nq=W1.drewN (n1+nq):=(by rw[wE.o,af]);clear hcw wE hsc
    go_loopw [11] (fun vj w2=>∃ (j' n2:Nat),vj= .int .i64 j'/\j'<=j/\i'<=j'+1/\w2=W1.drewN n2/\
     ac (ai (fun x=> !ae x dk[a]!) dk i' j'=ai (fun x=> !ae x dk[a]!) dk i' j))
     (fun vj _=>(intOf vj).toNat)
    case atStart=>exact⟨j,n1+nq,rfl,ar _,Gf,hw2,rfl⟩
    case round =>
     clear hw2;obtain⟨j',n2,rfl,hjj,Qk,hw2,vt⟩:=hrel;have hcw:∀ t,t<d.size->wr.cell? ⟨blk,off+t,none⟩=some (.int .u32 (Gk t)):=fun t ht=>by rw[hw2];exact hc t ht
     have Bl:ac (wr=W1.drewN n2):=hw2;clear hw2;by_cases rB:i'<=j'
     .go_wp2_with fail
      go_big_quiet (first|(go_at_call 282;refine ag (fc _ _ _)))
      go_wp2
      ·
       have ht:(!ae (Gk j') (Gk a))=true:=(by assumption);go_roundw
       case rel=>exact⟨j'-1,n2+nq,by go_num,by omega,by omega,by rw[Bl.o,af],(scanDown_go (fun x=> !ae x dk[a]!) dk i' j' rB (by omega) (by rw[<-AG.o a,<-AG.o j'];exact ht)).symm.trans vt.out⟩
       case measure=>simp[intOf];omega
      ·
       have ht:(!ae (Gk j') (Gk a))=false:=(by assumption);have uF:ac (j'=ai (fun x=> !ae x dk[a]!) dk i' j):=(scanDown_end (fun x=> !ae x dk[a]!) dk i' j' (ax (by rw[<-AG.o a,<-AG.o j'];exact ht))).symm.trans vt.out;clear hcw vt ht;have hw3:wr.drewN nq=W1.drewN (n2+nq):=(by rw[Bl.o,af]);generalize wr.drewN nq=W3 at hw3 ⊢;have hc3:∀ t,t<d.size->W3.cell? ⟨blk,off+t,none⟩=some (.int .u32 (Gk t)):=fun t ht=>by rw[hw3];exact hc t ht
       have hf3:∀ t,t<d.size->W3.frozen? ⟨blk,off+t,none⟩=false:=fun t ht=>by rw[hw3];exact hf t ht
       have E8:ac (W3=W1.drewN (n2+nq)):=hw3;clear hw3;obtain⟨v3,Yh⟩:=cell?_setCell_some (w:=W3) (p:=⟨blk,off+i',none⟩) (x:=.int .u32 (Gk j')) (q:=⟨blk,off+j',none⟩) (hc3 j' (by omega));have aci:=part_scans_lt ae a i j dk (by omega) uE.o uF.o rB
       go_wp2
       go_region
       all_goals go_wp2
       obtain⟨R,hR⟩ :∃ R,R=au ae a (i'+1) (j'-1) (ak dk i' j'):=⟨_,rfl⟩;have HP:ac (aj ae d a b pivot=(R.1,false,ak R.2 R.1 a)):=(by rw[hR];exact part_first_go ae d a b pivot HI.o HJ.o HDK.o uE.o uF.o (by omega));have hw0:((W3.setCell ⟨blk,off+i',none⟩ (.int .u32 (Gk j'))).setCell ⟨blk,off+j',none⟩ (.int .u32 (Gk i'))).drew=(putRow (ah .u32) w blk off (ak dk i' j')).drewN (n+(n2+nq)+1):=by
        rw[E8.o,AW.o,af,AG.o i',AG.o j'];exact swap_worldC (ah .u32) w blk off dk _ i' j' (by omega) (by omega)
       have HR:ac (R=au ae a (i'+1) (j'-1) (ak dk i' j')):=hR;clear hR hc hf hc3 hf3 Yh E8 AW AG uE uF
       go_loopw [10,11] (fun vi vj wr=>∃ (i j n:Nat) (dk:Array Int),vi= .int .i64 i/\vj= .int .i64 j/\a<i/\i<=j+1/\j<b/\dk.size=d.size/\wr=(putRow (ah .u32) w blk off dk).drewN n/\
        au ae a i j dk=R)
        (fun vi vj _=>(intOf vj).toNat+1-(intOf vi).toNat)
       case atStart=>exact⟨i'+1,j'-1,_,ak dk i' j',by go_num,by go_num,by omega,by omega,by omega,by rw[size_swp];exact hs,hw0,HR.o.symm⟩
       case round=>
        clear hw0 HR;obtain⟨i,j,n,dk,rfl,rfl,hai,SA,hjb,hs,hw,heq⟩:=hrel
        rename World=>W1
        have AE:ac (au ae a i j dk=R):=heq;clear heq;have xG:Holds (ah .u32) W1 blk off dk:=by
         rw[hw];exact holds_putRow (ah .u32) w blk off d dk AH.o hs
        obtain⟨Gk,hG⟩ :∃ Gk:Nat->Int,∀ t,Gk t=dk[t]! :=⟨fun t=>dk[t]!,fun _=>rfl⟩;have hc:∀ t,t<d.size->W1.cell? ⟨blk,off+t,none⟩=some (.int .u32 (Gk t)):=fun t ht=>by rw[hG];exact (xG t (by omega)).1
        have hf:∀ t,t<d.size->W1.frozen? ⟨blk,off+t,none⟩=false:=fun t ht=>(xG t (by omega)).2;have AG:ac (∀ t,Gk t=dk[t]!):=hG;have AW:ac (W1=(putRow (ah .u32) w blk off dk).drewN n):=hw;clear hG hw xG
        go_wp2
        go_loopw [10] (fun vi w1=>∃ (i' n1:Nat),vi= .int .i64 i'/\i<=i'/\i'<=j+1/\w1=W1.drewN n1/\
         ac (aq (fun x=>ae x dk[a]!) dk j i'=aq (fun x=>ae x dk[a]!) dk j i))
         (fun vi _=>j+1-(intOf vi).toNat)
        case atStart=>exact⟨i,0,rfl,ar _,SA,rfl,rfl⟩
        case round=>
         obtain⟨i',n1,rfl,hii,Gf,oq,hsc⟩:=hrel;have hcw:∀ t,t<d.size->wr.cell? ⟨blk,off+t,none⟩=some (.int .u32 (Gk t)):=fun t ht=>by rw[oq];exact hc t ht
         have wE:ac (wr=W1.drewN n1):=oq;clear oq;by_cases hle:i'<=j
         .go_wp2_with fail
          go_big_quiet (first|(go_at_call 282;refine ag (fc _ _ _)))
          go_wp2
          ·
           have ht:ae (Gk i') (Gk a)=true:=(by assumption);go_roundw
           case rel=>exact⟨i'+1,n1+nq,by go_num,by omega,by omega,by rw[wE.o,af],(scanUp_go (fun x=>ae x dk[a]!) dk j i' hle (by rw[<-AG.o a,<-AG.o i'];exact ht)).symm.trans hsc.out⟩
           case measure=>simp[intOf];omega
          ·
           have ht:ae (Gk i') (Gk a)=false:=(by assumption);have uE:ac (i'=aq (fun x=>ae x dk[a]!) dk j i):=(scanUp_end (fun x=>ae x dk[a]!) dk j i' (ax (by rw[<-AG.o a,<-AG.o i'];exact ht))).symm.trans hsc.out;clear ht;have hw2:wr.drewN nq=W1.drewN (n1+nq):=(by rw[wE.o,af]);clear hcw wE hsc
           go_loopw [11] (fun vj w2=>∃ (j' n2:Nat),vj= .int .i64 j'/\j'<=j/\i'<=j'+1/\w2=W1.drewN n2/\
            ac (ai (fun x=> !ae x dk[a]!) dk i' j'=ai (fun x=> !ae x dk[a]!) dk i' j))
            (fun vj _=>(intOf vj).toNat)
           case atStart=>exact⟨j,n1+nq,rfl,ar _,Gf,hw2,rfl⟩
           case round=>
            clear hw2;obtain⟨j',n2,rfl,hjj,Qk,hw2,vt⟩:=hrel;have hcw:∀ t,t<d.size->wr.cell? ⟨blk,off+t,none⟩=some (.int .u32 (Gk t)):=fun t ht=>by rw[hw2];exact hc t ht
            have Bl:ac (wr=W1.drewN n2):=hw2;clear hw2;by_cases rB:i'<=j'
            .go_wp2_with fail
             go_big_quiet (first|(go_at_call 282;refine ag (fc _ _ _)))
             go_wp2
             ·
              have ht:(!ae (Gk j') (Gk a))=true:=(by assumption);go_roundw
              case rel=>exact⟨j'-1,n2+nq,by go_num,by omega,by omega,by rw[Bl.o,af],(scanDown_go (fun x=> !ae x dk[a]!) dk i' j' rB (by omega) (by rw[<-AG.o a,<-AG.o j'];exact ht)).symm.trans vt.out⟩
              case measure=>simp[intOf];omega
             ·
              have ht:(!ae (Gk j') (Gk a))=false:=(by assumption);have uF:ac (j'=ai (fun x=> !ae x dk[a]!) dk i' j):=(scanDown_end (fun x=> !ae x dk[a]!) dk i' j' (ax (by rw[<-AG.o a,<-AG.o j'];exact ht))).symm.trans vt.out;clear hcw vt ht;have hw3:wr.drewN nq=W1.drewN (n2+nq):=(by rw[Bl.o,af]);generalize wr.drewN nq=W3 at hw3 ⊢;have hc3:∀ t,t<d.size->W3.cell? ⟨blk,off+t,none⟩=some (.int .u32 (Gk t)):=fun t ht=>by rw[hw3];exact hc t ht
              have hf3:∀ t,t<d.size->W3.frozen? ⟨blk,off+t,none⟩=false:=fun t ht=>by rw[hw3];exact hf t ht
              have E8:ac (W3=W1.drewN (n2+nq)):=hw3;clear hw3;obtain⟨v3,Yh⟩:=cell?_setCell_some (w:=W3) (p:=⟨blk,off+i',none⟩) (x:=.int .u32 (Gk j')) (q:=⟨blk,off+j',none⟩) (hc3 j' (by omega));have aci:=part_scans_lt ae a i j dk (by omega) uE.o uF.o rB
              go_wp2
              go_region
              all_goals go_wp2
              all_goals go_roundw
              case rel=>
               refine⟨i'+1,j'-1,n+(n2+nq)+1,ak dk i' j',by go_num,by go_num,by omega,by omega,by omega,by rw[size_swp];exact hs,?_,?_⟩
               .rw[E8.o,AW.o,af,AG.o i',AG.o j'];exact swap_worldC (ah .u32) w blk off dk _ i' j' (by omega) (by omega)
               .exact (part_go ae a i j dk uE.o uF.o (by omega)).symm.trans AE.o
              case measure=>simp[intOf];omega
            .go_wp2_with fail
             go_big_quiet (first|(go_at_call 282;refine ag (fc _ _ _)))
             have uF:ac (j'=ai (fun x=> !ae x dk[a]!) dk i' j):=(scanDown_end (fun x=> !ae x dk[a]!) dk i' j' (aw rB)).symm.trans vt.out;clear hcw vt;have hw3:wr.drewN nq=W1.drewN (n2+nq):=(by rw[Bl.o,af]);generalize wr.drewN nq=W3 at hw3 ⊢;have hc3:∀ t,t<d.size->W3.cell? ⟨blk,off+t,none⟩=some (.int .u32 (Gk t)):=fun t ht=>by rw[hw3];exact hc t ht
             have hf3:∀ t,t<d.size->W3.frozen? ⟨blk,off+t,none⟩=false:=fun t ht=>by rw[hw3];exact hf t ht
             have E8:ac (W3=W1.drewN (n2+nq)):=hw3;clear hw3;obtain⟨v3,Yh⟩:=cell?_setCell_some (w:=W3) (p:=⟨blk,off+j',none⟩) (x:=.int .u32 (Gk a)) (q:=⟨blk,off+a,none⟩) (hc3 a (by omega));have hlj:j'<d.size:=by omega
             go_wp2
             go_region
             all_goals go_wp2
             all_goals go_ret2
             have e:aj ae d a b pivot=(j',false,ak dk j' a):=by
              have e0:=(part_break ae a i j dk uE.o uF.o (by omega)).symm.trans AE.o;rw[HP.o,<-e0]
             refine⟨?_,n+(n2+nq)+1,?_⟩
             .rw[e];rfl
             .rw[e,E8.o,AW.o,af,AG.o a,AG.o j'];exact swap_worldC (ah .u32) w blk off dk _ j' a (by omega) (by omega)
         .go_wp2_with fail
          go_big_quiet (first|(go_at_call 282;refine ag (fc _ _ _)))
          go_wp2
          have uE:ac (i'=aq (fun x=>ae x dk[a]!) dk j i):=(scanUp_end (fun x=>ae x dk[a]!) dk j i' (aw hle)).symm.trans hsc.out;have hw2:wr.drewN nq=W1.drewN (n1+nq):=(by rw[wE.o,af]);clear hcw wE hsc
          go_loopw [11] (fun vj w2=>∃ (j' n2:Nat),vj= .int .i64 j'/\j'<=j/\i'<=j'+1/\w2=W1.drewN n2/\
           ac (ai (fun x=> !ae x dk[a]!) dk i' j'=ai (fun x=> !ae x dk[a]!) dk i' j))
           (fun vj _=>(intOf vj).toNat)
          case atStart=>exact⟨j,n1+nq,rfl,ar _,Gf,hw2,rfl⟩
          case round=>
           clear hw2;obtain⟨j',n2,rfl,hjj,Qk,hw2,vt⟩:=hrel;have hcw:∀ t,t<d.size->wr.cell? ⟨blk,off+t,none⟩=some (.int .u32 (Gk t)):=fun t ht=>by rw[hw2];exact hc t ht
           have Bl:ac (wr=W1.drewN n2):=hw2;clear hw2;by_cases rB:i'<=j'
           .exfalso;omega
           .go_wp2_with fail
            go_big_quiet (first|(go_at_call 282;refine ag (fc _ _ _)))
            have uF:ac (j'=ai (fun x=> !ae x dk[a]!) dk i' j):=(scanDown_end (fun x=> !ae x dk[a]!) dk i' j' (aw rB)).symm.trans vt.out;clear hcw vt;have hw3:wr.drewN nq=W1.drewN (n2+nq):=(by rw[Bl.o,af]);generalize wr.drewN nq=W3 at hw3 ⊢;have hc3:∀ t,t<d.size->W3.cell? ⟨blk,off+t,none⟩=some (.int .u32 (Gk t)):=fun t ht=>by rw[hw3];exact hc t ht
            have hf3:∀ t,t<d.size->W3.frozen? ⟨blk,off+t,none⟩=false:=fun t ht=>by rw[hw3];exact hf t ht
            have E8:ac (W3=W1.drewN (n2+nq)):=hw3;clear hw3;obtain⟨v3,Yh⟩:=cell?_setCell_some (w:=W3) (p:=⟨blk,off+j',none⟩) (x:=.int .u32 (Gk a)) (q:=⟨blk,off+a,none⟩) (hc3 a (by omega));have hlj:j'<d.size:=by omega
            go_wp2
            go_region
            all_goals go_wp2
            all_goals go_ret2
            have e:aj ae d a b pivot=(j',false,ak dk j' a):=by
             have e0:=(part_break ae a i j dk uE.o uF.o (by omega)).symm.trans AE.o;rw[HP.o,<-e0]
            refine⟨?_,n+(n2+nq)+1,?_⟩
            .rw[e];rfl
            .rw[e,E8.o,AW.o,af,AG.o a,AG.o j'];exact swap_worldC (ah .u32) w blk off dk _ j' a (by omega) (by omega)
     .go_wp2_with fail
      go_big_quiet (first|(go_at_call 282;refine ag (fc _ _ _)))
      have uF:ac (j'=ai (fun x=> !ae x dk[a]!) dk i' j):=(scanDown_end (fun x=> !ae x dk[a]!) dk i' j' (aw rB)).symm.trans vt.out;clear hcw vt;have hw3:wr.drewN nq=W1.drewN (n2+nq):=(by rw[Bl.o,af]);generalize wr.drewN nq=W3 at hw3 ⊢;have hc3:∀ t,t<d.size->W3.cell? ⟨blk,off+t,none⟩=some (.int .u32 (Gk t)):=fun t ht=>by rw[hw3];exact hc t ht
      have hf3:∀ t,t<d.size->W3.frozen? ⟨blk,off+t,none⟩=false:=fun t ht=>by rw[hw3];exact hf t ht
      have E8:ac (W3=W1.drewN (n2+nq)):=hw3;clear hw3;obtain⟨v3,Yh⟩:=cell?_setCell_some (w:=W3) (p:=⟨blk,off+j',none⟩) (x:=.int .u32 (Gk a)) (q:=⟨blk,off+a,none⟩) (hc3 a (by omega));have hlj:j'<d.size:=by omega
      go_wp2
      go_region
      all_goals go_wp2
      all_goals go_ret2
      have e:aj ae d a b pivot=(j',true,ak dk j' a):=part_first_break ae d a b pivot HI.o HJ.o HDK.o uE.o uF.o (by omega);refine⟨?_,n+(n2+nq)+1,?_⟩
      .rw[e];rfl
      .rw[e,E8.o,AW.o,af,AG.o a,AG.o j'];exact swap_worldC (ah .u32) w blk off dk _ j' a (by omega) (by omega)
  .go_wp2_with fail
   go_big_quiet (first|(go_at_call 282;refine ag (fc _ _ _)))
   go_wp2
   have uE:ac (i'=aq (fun x=>ae x dk[a]!) dk j i):=(scanUp_end (fun x=>ae x dk[a]!) dk j i' (aw hle)).symm.trans hsc.out;have hw2:wr.drewN nq=W1.drewN (n1+nq):=(by rw[wE.o,af]);clear hcw wE hsc
   go_loopw [11] (fun vj w2=>∃ (j' n2:Nat),vj= .int .i64 j'/\j'<=j/\i'<=j'+1/\w2=W1.drewN n2/\
    ac (ai (fun x=> !ae x dk[a]!) dk i' j'=ai (fun x=> !ae x dk[a]!) dk i' j))
    (fun vj _=>(intOf vj).toNat)
   case atStart=>exact⟨j,n1+nq,rfl,ar _,Gf,hw2,rfl⟩
   case round=>
    clear hw2;obtain⟨j',n2,rfl,hjj,Qk,hw2,vt⟩:=hrel;have hcw:∀ t,t<d.size->wr.cell? ⟨blk,off+t,none⟩=some (.int .u32 (Gk t)):=fun t ht=>by rw[hw2];exact hc t ht
    have Bl:ac (wr=W1.drewN n2):=hw2;clear hw2;by_cases rB:i'<=j'
    .exfalso;omega
    .go_wp2_with fail
     go_big_quiet (first|(go_at_call 282;refine ag (fc _ _ _)))
     have uF:ac (j'=ai (fun x=> !ae x dk[a]!) dk i' j):=(scanDown_end (fun x=> !ae x dk[a]!) dk i' j' (aw rB)).symm.trans vt.out;clear hcw vt;have hw3:wr.drewN nq=W1.drewN (n2+nq):=(by rw[Bl.o,af]);generalize wr.drewN nq=W3 at hw3 ⊢;have hc3:∀ t,t<d.size->W3.cell? ⟨blk,off+t,none⟩=some (.int .u32 (Gk t)):=fun t ht=>by rw[hw3];exact hc t ht
     have hf3:∀ t,t<d.size->W3.frozen? ⟨blk,off+t,none⟩=false:=fun t ht=>by rw[hw3];exact hf t ht
     have E8:ac (W3=W1.drewN (n2+nq)):=hw3;clear hw3;obtain⟨v3,Yh⟩:=cell?_setCell_some (w:=W3) (p:=⟨blk,off+j',none⟩) (x:=.int .u32 (Gk a)) (q:=⟨blk,off+a,none⟩) (hc3 a (by omega));have hlj:j'<d.size:=by omega
     go_wp2
     go_region
     all_goals go_wp2
     all_goals go_ret2
     have e:aj ae d a b pivot=(j',true,ak dk j' a):=part_first_break ae d a b pivot HI.o HJ.o HDK.o uE.o uF.o (by omega);refine⟨?_,n+(n2+nq)+1,?_⟩
     .rw[e];rfl
     .rw[e,E8.o,AW.o,af,AG.o a,AG.o j'];exact swap_worldC (ah .u32) w blk off dk _ j' a (by omega) (by omega)
theorem tu (blk off cap a b pivot:Nat)(d:Array Int)(w:World)(hH:Holds (ah .u32) w blk off d)(hap:a<=pivot)(sw:pivot<b)(hb:b<=d.size)(hsz:d.size<4611686018427387904):
 Calls Tryz.prog 284 #[.slice (some ⟨blk,off,none⟩) d.size cap,.int .i64 a,.int .i64 b,.int .i64 pivot] w fun e w'=>
  e= .returned (.tuple #[.int .i64 (aj ae d a b pivot).1,.bool (aj ae d a b pivot).2.1])/\∃ n,w'=putRow (ah .u32) (Sort.ahead w n) blk off (aj ae d a b pivot).2.2:=
 (EY blk off cap a b pivot d w hH hap sw hb hsz).mono fun _ _ ⟨he,n,hw⟩=>⟨he,n,hw⟩
end
end Go.Proofs.YtlkahgagmfhdaaaGreatDoor
