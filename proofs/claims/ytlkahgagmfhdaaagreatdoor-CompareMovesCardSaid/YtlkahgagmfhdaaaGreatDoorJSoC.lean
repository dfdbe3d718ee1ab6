import Derived.Test.YtlkahgagmfhdaaaGreatDoorJSoA
import Derived.Sort.WalkC
set_option linter.unusedVariables false
set_option linter.unusedSimpArgs false
open Go.Sort renaming ltInt→ae,partitionEqual→ag,scanDown→aj,partEqLoop→ak,scanUp→aq,swp→au
open Go.World renaming drewN_drewN→af
open Go.Value renaming int→ah
open Go.Calls renaming quiet_of_same→ai
set_option maxRecDepth 1000000
set_option maxHeartbeats 8000000
namespace Go.Proofs.YtlkahgagmfhdaaaGreatDoor
section
open Go.RowKit Go.Sort Go.Proofs
theorem wa (blk off cap a b pivot:Nat)(d:Array Int)(w:World)(hH:Holds (ah .u32) w blk off d)(hap:a<=pivot)(sw:pivot<b)(hb:b<=d.size)(hsz:d.size<4611686018427387904):
 Calls Tryz.prog 283 #[.slice (some ⟨blk,off,none⟩) d.size cap,.int .i64 a,.int .i64 b,.int .i64 pivot] w fun e w'=>
  e= .returned (.int .i64 (ag ae d a b pivot).1)/\∃ n,w'=(putRow (ah .u32) w blk off (ag ae d a b pivot).2).drewN n:=by
 have vk:a<d.size:=by omega
 have Qp:pivot<d.size:=by omega
 obtain⟨G,hG⟩ :∃ G:Nat->Int,∀ j,G j=d[j]! :=⟨fun j=>d[j]!,fun _=>rfl⟩;have ca:w.cell? ⟨blk,off+a,none⟩=some (.int .u32 (G a)):=by rw[hG];exact (hH a vk).1
 have fa:=(hH a vk).2;have cp:w.cell? ⟨blk,off+pivot,none⟩=some (.int .u32 (G pivot)):=by rw[hG];exact (hH pivot Qp).1
 have fp:=(hH pivot Qp).2;obtain⟨v',hy'⟩:=cell?_setCell_some (w:=w) (p:=⟨blk,off+a,none⟩) (x:=.int .u32 (G pivot)) (q:=⟨blk,off+pivot,none⟩) cp;have AG:ac (∀ j,G j=d[j]!):=hG;have AH:ac (Holds (ah .u32) w blk off d):=hH;clear hG hH;go_enter Tryz.func283,Tryz.ntmps283
 go_wp2
 go_region
 go_wp2
 go_loopw [9,10] (fun vi vj wr=>∃ (i j n:Nat) (dk:Array Int),vi= .int .i64 i/\vj= .int .i64 j/\a<i/\i<=j+1/\j<b/\dk.size=d.size/\wr=(putRow (ah .u32) w blk off dk).drewN n/\
  ak ae a i j dk=ak ae a (a+1) (b-1) (au d a pivot))
  (fun vi vj _=>(intOf vj).toNat+1-(intOf vi).toNat)
 case atStart=>
  refine⟨a+1,b-1,1,au d a pivot,by go_num,by go_num,by omega,by omega,by omega,size_swp _ _ _,?_,rfl⟩;have e:=swap_worldC (ah .u32) w blk off d 0 a pivot vk Qp;rw[putRow_self _ w blk off d AH.o]at e;rw[AG.o a,AG.o pivot];exact e
 case round=>
  obtain⟨i,j,n,dk,rfl,rfl,hai,SA,hjb,hs,hw,heq⟩:=hrel;clear ca fa cp fp hy' v' AG
  rename World=>W1
  have xG:Holds (ah .u32) W1 blk off dk:=by
   rw[hw];exact holds_putRow (ah .u32) w blk off d dk AH.o hs
  obtain⟨Gk,hG⟩ :∃ Gk:Nat->Int,∀ t,Gk t=dk[t]! :=⟨fun t=>dk[t]!,fun _=>rfl⟩;have hc:∀ t,t<d.size->W1.cell? ⟨blk,off+t,none⟩=some (.int .u32 (Gk t)):=fun t ht=>by rw[hG];exact (xG t (by omega)).1
  have hf:∀ t,t<d.size->W1.frozen? ⟨blk,off+t,none⟩=false:=fun t ht=>(xG t (by omega)).2;have AG:ac (∀ t,Gk t=dk[t]!):=hG;have AW:ac (W1=(putRow (ah .u32) w blk off dk).drewN n):=hw;have AE:ac (ak ae a i j dk=ak ae a (a+1) (b-1) (au d a pivot)):=heq;clear hG hw heq xG
  go_wp2
  go_loopw [9] (fun vi w1=>∃ (i' n1:Nat),vi= .int .i64 i'/\i<=i'/\i'<=j+1/\w1=W1.drewN n1/\
   ac (aq (fun x=> !ae dk[a]! x) dk j i'=aq (fun x=> !ae dk[a]! x) dk j i))
   (fun vi _=>j+1-(intOf vi).toNat)
  case atStart=>exact⟨i,0,rfl,Nat.le_refl _,SA,rfl,rfl⟩
  case round=>
   obtain⟨i',n1,rfl,hii,Gf,oq,hsc⟩:=hrel;have hcw:∀ t,t<d.size->wr.cell? ⟨blk,off+t,none⟩=some (.int .u32 (Gk t)):=fun t ht=>by rw[oq];exact hc t ht
   have wE:ac (wr=W1.drewN n1):=oq;clear oq;by_cases hle:i'<=j
   .go_wp2_with fail
    go_big_quiet (first|(go_at_call 282;refine ai (fc _ _ _)))
    go_wp2
    ·
     have ht:(!ae (Gk a) (Gk i'))=true:=(by assumption);go_roundw
     case rel=>exact⟨i'+1,n1+nq,by go_num,by omega,by omega,by rw[wE.o,af],(scanUp_go (fun x=> !ae dk[a]! x) dk j i' hle (by rw[<-AG.o a,<-AG.o i'];exact ht)).symm.trans hsc.out⟩
     case measure=>simp[intOf];omega
    ·
     have ht:(!ae (Gk a) (Gk i'))=false:=(by assumption);have uE:ac (i'=aq (fun x=> !ae dk[a]! x) dk j i):=(scanUp_end (fun x=> !ae dk[a]! x) dk j i' (Or.inr (by rw[<-AG.o a,<-AG.o i'];exact ht))).symm.trans hsc.out;clear ht;have hw2:wr.drewN nq=W1.drewN (n1+nq):=(by rw[wE.o,af]);clear hcw wE hsc
     go_loopw [10] (fun vj w2=>∃ (j' n2:Nat),vj= .int .i64 j'/\j'<=j/\i'<=j'+1/\w2=W1.drewN n2/\
      ac (aj (fun x=>ae dk[a]! x) dk i' j'=aj (fun x=>ae dk[a]! x) dk i' j))
      (fun vj _=>(intOf vj).toNat)
     case atStart=>exact⟨j,n1+nq,rfl,Nat.le_refl _,Gf,hw2,rfl⟩
     case round=>
      clear hw2;obtain⟨j',n2,rfl,hjj,Qk,hw2,vt⟩:=hrel;have hcw:∀ t,t<d.size->wr.cell? ⟨blk,off+t,none⟩=some (.int .u32 (Gk t)):=fun t ht=>by rw[hw2];exact hc t ht
      have Bl:ac (wr=W1.drewN n2):=hw2;clear hw2;by_cases rB:i'<=j'
      .go_wp2_with fail
       go_big_quiet (first|(go_at_call 282;refine ai (fc _ _ _)))
       go_wp2
       ·
        have ht:ae (Gk a) (Gk j')=true:=(by assumption);go_roundw
        case rel=>exact⟨j'-1,n2+nq,by go_num,by omega,by omega,by rw[Bl.o,af],(scanDown_go (fun x=>ae dk[a]! x) dk i' j' rB (by omega) (by rw[<-AG.o a,<-AG.o j'];exact ht)).symm.trans vt.out⟩
        case measure=>simp[intOf];omega
       ·
        have ht:ae (Gk a) (Gk j')=false:=(by assumption);have uF:ac (j'=aj (fun x=>ae dk[a]! x) dk i' j):=(scanDown_end (fun x=>ae dk[a]! x) dk i' j' (Or.inr (by rw[<-AG.o a,<-AG.o j'];exact ht))).symm.trans vt.out;clear hcw vt ht;have hw3:wr.drewN nq=W1.drewN (n2+nq):=(by rw[Bl.o,af]);generalize wr.drewN nq=W3 at hw3 ⊢;have hc3:∀ t,t<d.size->W3.cell? ⟨blk,off+t,none⟩=some (.int .u32 (Gk t)):=fun t ht=>by rw[hw3];exact hc t ht
        have hf3:∀ t,t<d.size->W3.frozen? ⟨blk,off+t,none⟩=false:=fun t ht=>by rw[hw3];exact hf t ht
        have E8:ac (W3=W1.drewN (n2+nq)):=hw3;clear hw3;obtain⟨v3,Yh⟩:=cell?_setCell_some (w:=W3) (p:=⟨blk,off+i',none⟩) (x:=.int .u32 (Gk j')) (q:=⟨blk,off+j',none⟩) (hc3 j' (by omega));have aci:=scans_lt ae a i j dk (by omega) uE.o uF.o rB
        go_wp2
        go_region
        all_goals go_wp2
        all_goals go_roundw
        case rel=>
         refine⟨i'+1,j'-1,n+(n2+nq)+1,au dk i' j',by go_num,by go_num,by omega,by omega,by omega,by rw[size_swp];exact hs,?_,?_⟩
         .rw[E8.o,AW.o,af,AG.o i',AG.o j'];exact swap_worldC (ah .u32) w blk off dk _ i' j' (by omega) (by omega)
         .rw[<-AE.o];exact (partEq_go ae a i j dk uE.o uF.o (by omega)).symm
        case measure=>simp[intOf];omega
      .go_wp2_with fail
       go_big_quiet (first|(go_at_call 282;refine ai (fc _ _ _)))
       have uF:ac (j'=aj (fun x=>ae dk[a]! x) dk i' j):=(scanDown_end (fun x=>ae dk[a]! x) dk i' j' (Or.inl rB)).symm.trans vt.out;clear hcw vt;have hw3:wr.drewN nq=W1.drewN (n2+nq):=(by rw[Bl.o,af]);generalize wr.drewN nq=W3 at hw3 ⊢;have hc3:∀ t,t<d.size->W3.cell? ⟨blk,off+t,none⟩=some (.int .u32 (Gk t)):=fun t ht=>by rw[hw3];exact hc t ht
       have hf3:∀ t,t<d.size->W3.frozen? ⟨blk,off+t,none⟩=false:=fun t ht=>by rw[hw3];exact hf t ht
       have E8:ac (W3=W1.drewN (n2+nq)):=hw3;clear hw3
       go_wp2
       go_ret;have e:=partEq_break ae a i j dk uE.o uF.o (by omega);refine⟨?_,n+(n2+nq),?_⟩
       .unfold ag;rw[<-AE.o,e];rfl
       .unfold ag;rw[<-AE.o,e,E8.o,AW.o,af]
   .go_wp2_with fail
    go_big_quiet (first|(go_at_call 282;refine ai (fc _ _ _)))
    go_wp2
    have uE:ac (i'=aq (fun x=> !ae dk[a]! x) dk j i):=(scanUp_end (fun x=> !ae dk[a]! x) dk j i' (Or.inl hle)).symm.trans hsc.out;have hw2:wr.drewN nq=W1.drewN (n1+nq):=(by rw[wE.o,af]);clear hcw wE hsc
    go_loopw [10] (fun vj w2=>∃ (j' n2:Nat),vj= .int .i64 j'/\j'<=j/\i'<=j'+1/\w2=W1.drewN n2/\
     ac (aj (fun x=>ae dk[a]! x) dk i' j'=aj (fun x=>ae dk[a]! x) dk i' j))
     (fun vj _=>(intOf vj).toNat)
    case atStart=>exact⟨j,n1+nq,rfl,Nat.le_refl _,Gf,hw2,rfl⟩
    case round=>
     clear hw2;obtain⟨j',n2,rfl,hjj,Qk,hw2,vt⟩:=hrel;have hcw:∀ t,t<d.size->wr.cell? ⟨blk,off+t,none⟩=some (.int .u32 (Gk t)):=fun t ht=>by rw[hw2];exact hc t ht
     have Bl:ac (wr=W1.drewN n2):=hw2;clear hw2;by_cases rB:i'<=j'
     .exfalso;omega
     .go_wp2_with fail
      go_big_quiet (first|(go_at_call 282;refine ai (fc _ _ _)))
      have uF:ac (j'=aj (fun x=>ae dk[a]! x) dk i' j):=(scanDown_end (fun x=>ae dk[a]! x) dk i' j' (Or.inl rB)).symm.trans vt.out;clear hcw vt;have hw3:wr.drewN nq=W1.drewN (n2+nq):=(by rw[Bl.o,af]);generalize wr.drewN nq=W3 at hw3 ⊢;have hc3:∀ t,t<d.size->W3.cell? ⟨blk,off+t,none⟩=some (.int .u32 (Gk t)):=fun t ht=>by rw[hw3];exact hc t ht
      have hf3:∀ t,t<d.size->W3.frozen? ⟨blk,off+t,none⟩=false:=fun t ht=>by rw[hw3];exact hf t ht
      have E8:ac (W3=W1.drewN (n2+nq)):=hw3;clear hw3
      go_wp2
      go_ret;have e:=partEq_break ae a i j dk uE.o uF.o (by omega);refine⟨?_,n+(n2+nq),?_⟩
      .unfold ag;rw[<-AE.o,e];rfl
      .unfold ag;rw[<-AE.o,e,E8.o,AW.o,af]
theorem oP (blk off cap a b pivot:Nat)(d:Array Int)(w:World)(hH:Holds (ah .u32) w blk off d)(hap:a<=pivot)(sw:pivot<b)(hb:b<=d.size)(hsz:d.size<4611686018427387904):
 Calls Tryz.prog 283 #[.slice (some ⟨blk,off,none⟩) d.size cap,.int .i64 a,.int .i64 b,.int .i64 pivot] w fun e w'=>
  e= .returned (.int .i64 (ag ae d a b pivot).1)/\∃ n,w'=putRow (ah .u32) (Sort.ahead w n) blk off (ag ae d a b pivot).2:=
 (wa blk off cap a b pivot d w hH hap sw hb hsz).mono fun _ _ ⟨he,n,hw⟩=>⟨he,n,hw⟩
end
end Go.Proofs.YtlkahgagmfhdaaaGreatDoor
