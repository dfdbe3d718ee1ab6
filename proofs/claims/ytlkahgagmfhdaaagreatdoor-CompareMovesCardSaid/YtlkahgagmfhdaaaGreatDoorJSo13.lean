import Derived.Test.YtlkahgagmfhdaaaGreatDoorJSo6
import Derived.Test.YtlkahgagmfhdaaaGreatDoorJSo7
import Derived.Test.YtlkahgagmfhdaaaGreatDoorJSoD
import Derived.Test.YtlkahgagmfhdaaaGreatDoorJSoB
import Derived.Test.YtlkahgagmfhdaaaGreatDoorJSoC
import Derived.Test.YtlkahgagmfhdaaaGreatDoorJSoC4
import Derived.Sort.Walk13
import Derived.Sort.AssemblyPlain
set_option linter.unusedVariables false
set_option linter.unusedSimpArgs false
open Go.Sort renaming ahead→ae
open Nat renaming le_refl→af,le_trans→ah,lt_of_le_of_lt→ak
open Go.Value renaming int→ag,bool→aq
set_option maxRecDepth 1000000
set_option maxHeartbeats 8000000
namespace Go.Proofs.YtlkahgagmfhdaaaGreatDoor
section
open Go.RowKit Go.Sort Go.Proofs
structure Fe:Prop where
 ins:∀ (blk off cap a b:Nat) (d:Array Int) (w:World),Holds fY w blk off d->a<=b->b<=d.size->d.size<4611686018427387904->
  Calls Tryz.prog 276 #[.slice (some ⟨blk,off,none⟩) d.size cap,.int .i64 a,.int .i64 b] w fun e w'=>e= .returned (.tuple #[])/\∃ n,w'=putRow fY (ae w n) blk off (insertionSort ltInt d a b)
 brk:∀ (blk off cap a b:Nat) (d:Array Int) (w:World),Holds fY w blk off d->blk<w.heap.size->a<=b->b<=d.size->d.size<4611686018427387904->
  Calls Tryz.prog 278 #[.slice (some ⟨blk,off,none⟩) d.size cap,.int .i64 a,.int .i64 b] w fun e w'=>e= .returned (.tuple #[])/\∃ n os,w'=grow (putRow fY (ae w n) blk off (breakPatterns d a b)) os
 piv:∀ (blk off cap a b:Nat) (d:Array Int) (w:World),Holds fY w blk off d->blk<w.heap.size->a<b->b<=d.size->d.size<4611686018427387904->
  Calls Tryz.prog 279 #[.slice (some ⟨blk,off,none⟩) d.size cap,.int .i64 a,.int .i64 b] w fun e w'=>e= .returned (.tuple #[.int .i64 (choosePivot ltInt d a b).1,.int .i64 (hintCode (choosePivot ltInt d a b).2)])/\∃ n os,w'=grow (ae w n) os
 par:∀ (blk off cap a b:Nat) (d:Array Int) (w:World),Holds fY w blk off d->a<b->b<=d.size->d.size<4611686018427387904->
  Calls Tryz.prog 281 #[.slice (some ⟨blk,off,none⟩) d.size cap,.int .i64 a,.int .i64 b] w fun e w'=>e= .returned (.bool (partialInsertionSort ltInt d a b).2)/\∃ n,w'=putRow fY (ae w n) blk off (partialInsertionSort ltInt d a b).1
 peq:∀ (blk off cap a b pivot:Nat) (d:Array Int) (w:World),Holds fY w blk off d->a<=pivot->pivot<b->b<=d.size->d.size<4611686018427387904->
  Calls Tryz.prog 283 #[.slice (some ⟨blk,off,none⟩) d.size cap,.int .i64 a,.int .i64 b,.int .i64 pivot] w fun e w'=>e= .returned (.int .i64 (partitionEqual ltInt d a b pivot).1)/\∃ n,w'=putRow fY (ae w n) blk off (partitionEqual ltInt d a b pivot).2
 prt:∀ (blk off cap a b pivot:Nat) (d:Array Int) (w:World),Holds fY w blk off d->a<=pivot->pivot<b->b<=d.size->d.size<4611686018427387904->
  Calls Tryz.prog 284 #[.slice (some ⟨blk,off,none⟩) d.size cap,.int .i64 a,.int .i64 b,.int .i64 pivot] w fun e w'=>e= .returned (.tuple #[.int .i64 (partition ltInt d a b pivot).1,.bool (partition ltInt d a b pivot).2.1])/\∃ n,w'=putRow fY (ae w n) blk off (partition ltInt d a b pivot).2.2
theorem J8 (C:Fe)(S:Plain13):∀ (N blk off cap a b limit:Nat) (d:Array Int) (w:World),b-a<N->Holds fY w blk off d->blk<w.heap.size->a<=b->b<=d.size->d.size<4611686018427387904->limit<4611686018427387904->Below ltInt a b d->
 Calls Tryz.prog 264 #[.slice (some ⟨blk,off,none⟩) d.size cap,.int .i64 a,.int .i64 b,.int .i64 limit] w fun e w'=>e= .returned (.tuple #[])/\At fY w blk off (pdq ltInt d a b limit true true) w':=by
 intro N
 induction N with
 | zero=>intro _ _ _ _ _ _ _ _ h;exact absurd h (Nat.not_lt_zero _)
 | succ N ih =>
   intro blk off cap a b limit d w hN hH hblk hab hb hsz Qn aa9;go_enter Tryz.func264,Tryz.ntmps264
   go_wp2
   go_loopg [1,2,3,8,9] (b-a) (fun k s1 s2 s3 s8 s9 wr=>∃ (a' b' lim:Nat) (wb wp:Bool) (dk:Array Int),s1= .int .i64 a'/\s2= .int .i64 b'/\s3= .int .i64 lim/\s8= .bool wb/\s9= .bool wp/\
    a'<=b'/\b'<=d.size/\b'-a'<=k/\k<=b-a/\lim<=limit/\dk.size=d.size/\Below ltInt a' b' dk/\At fY w blk off dk wr/\pdq ltInt dk a' b' lim wb wp=pdq ltInt d a b limit true true)
   case atStart=>exact⟨a,b,limit,true,true,d,rfl,rfl,rfl,rfl,rfl,hab,hb,af _,af _,af _,rfl,aa9,At.refl hH,rfl⟩
   case round =>
    obtain⟨a',b',lim,wb,wp,dk,rfl,rfl,rfl,rfl,rfl,Mn,hb',hk,hkN,Qm,qZ,Jh,hAt,heq⟩:=hrel;obtain⟨xG,abx⟩:=hAt.holds hH qZ hblk;have A:Aside (pdq ltInt dk a' b' lim wb wp=pdq ltInt d a b limit true true):=heq;clear heq;by_cases h12:b'-a'<=12
    ·
     have af_:(b':Int)-(a':Int)<=12:=(by omega);have hc:=C.ins blk off cap a' b' dk wr xG Mn (by omega) (by omega);rw[qZ]at hc;go_wp2_with (go_at_call 276;refine hc.mono ?_;rintro e w1 ⟨rfl,oq⟩)
     (try simp only[Exit.inBlock,Exit.then]);refine bodyPost_ret (results_none rfl _ _ _) rfl ?_
     refine⟨rfl,?_⟩;rw[<-A.out,pdq_small h12];exact hAt.step hblk (S.ins S.swo dk a' b' Mn (by omega)).1.1 oq
    .have af_ :¬ ((b':Int)-(a':Int)<=12):=(by omega);by_cases hl0:lim=0
     ·
      subst hl0;have hc:=Hj blk off d.size cap dk qZ a' b' wr xG Mn (by omega) (by omega);go_wp2_with (go_at_call 277;refine hc.mono ?_;rintro e w1 ⟨rfl,oq⟩)
      (try simp only[Exit.inBlock,Exit.then]);refine bodyPost_ret (results_none rfl _ _ _) rfl ?_
      refine⟨rfl,?_⟩;rw[<-A.out,pdq_heap h12 rfl];exact hAt.step hblk (heapSort_holds S.swo dk a' b' Mn (by omega)).1.1 oq
     .have amR:¬ ((lim:Int)=0):=(by omega);obtain⟨s1,B1,hc1,s2,B2,VN,s3,B3⟩:=rd_facts (limit:=lim) (wb:=wb) (wp:=wp) S.swo S.par reverseRange_holds (show a'<b' by omega) (show b'<=dk.size by omega) Jh
      go_upto_if 35 with fail
      go_cut [3] from 19 (fun s3 wc=>s3= .int .i64 (rd ltInt dk a' b' lim wb wp).lim/\At fY w blk off (rd ltInt dk a' b' lim wb wp).d1 wc)
      case first=>
       cases wb
       .have hc:=C.brk blk off cap a' b' dk wr xG abx Mn (by omega) (by omega);rw[qZ]at hc;go_wp2_with (go_at_call 278;refine hc.mono ?_;rintro e w1 ⟨rfl,oq⟩);go_meet
        case rel=>
         refine⟨?_,hAt.stepG hblk s1 oq⟩;show ag .i64 ((lim:Int)-1)=ag .i64 ((lim-1:Nat):Int);congr 1;omega
       .go_wp2_with fail;go_meet
        case rel=>exact⟨rfl,hAt⟩
      case rest=>
       obtain⟨rfl,aa7⟩:=hcut;obtain⟨hH1,aby⟩:=aa7.holds hH (s1.trans qZ) hblk;have agJ:Calls Tryz.prog 279 #[.slice (some ⟨blk,off,none⟩) d.size cap,.int .i64 a',.int .i64 b'] wc fun e w'=>e= .returned (.tuple #[.int .i64 (rd ltInt dk a' b' lim wb wp).c.1,.int .i64 (hintCode (rd ltInt dk a' b' lim wb wp).c.2)])/\∃ n os,w'=grow (ae wc n) os:=by
        have:=C.piv blk off cap a' b' (rd ltInt dk a' b' lim wb wp).d1 wc hH1 aby (by omega) (by omega) (by omega);rw[s1,qZ]at this;exact this
       go_upto_if 50 with (go_at_call 279;refine agJ.mono ?_;rintro e w2 ⟨rfl,hw2⟩)
       have Xx:At fY w blk off (rd ltInt dk a' b' lim wb wp).d1 w2:=aa7.same hH (s1.trans qZ) hblk hw2;obtain⟨hH2,ajy⟩:=Xx.holds hH (s1.trans qZ) hblk
       go_cut [11,12] from 19 (fun s11 s12 wc=>s11= .int .i64 (rd ltInt dk a' b' lim wb wp).pivot/\s12= .int .i64 (hintCode (rd ltInt dk a' b' lim wb wp).hint)/\At fY w blk off (rd ltInt dk a' b' lim wb wp).d2 wc)
       case first=>
        by_cases hh:(rd ltInt dk a' b' lim wb wp).c.2= .decreasing
        .have abH:hintCode (rd ltInt dk a' b' lim wb wp).c.2=2:=(by rw[hh];rfl);obtain⟨e2,epv,eht⟩:=rd_dec hh;have abB:=yn blk off cap (rd ltInt dk a' b' lim wb wp).d1 a' b' w2 hH2 Mn (by omega) (by omega);rw[s1,qZ]at abB;go_wp2_with (go_at_call 280;refine abB.mono ?_;rintro e w3 ⟨rfl,hw3⟩);go_meet
         case rel=>
          refine⟨?_,by rw[eht];rfl,by rw[e2];exact Xx.step hblk (by rw[<-e2,s2,s1]) hw3⟩;rw[epv];congr 1;omega
        .have abH:¬ (hintCode (rd ltInt dk a' b' lim wb wp).c.2=2):=fun h=>hh (hintCode_two h);obtain⟨e2,epv,eht⟩:=rd_not hh;go_wp2_with fail;go_meet
         case rel=>exact⟨by rw[epv],by rw[eht],by rw[e2];exact Xx⟩
       case rest=>
        obtain⟨rfl,rfl,TS⟩:=hcut;obtain⟨hH3,ajz⟩:=TS.holds hH (s2.trans qZ) hblk;go_upto_region 15 with fail
        go_cut [12,68] from 19 (fun s12 s68 wx=>s12= .int .i64 (hintCode (rd ltInt dk a' b' lim wb wp).hint)/\s68= .bool (wb && wp && decide ((rd ltInt dk a' b' lim wb wp).hint= .increasing))/\wx=wc)
        case first=>
         cases wb <;> cases wp <;> cases hh3:(rd ltInt dk a' b' lim _ _).hint <;>
          (have XL:=congrArg hintCode hh3
           simp only[hintCode]at XL;go_wp2_with fail;go_meet;exact⟨by simp[hh3,hintCode],by simp[hh3,hintCode],rfl⟩)
        case rest=>
         obtain⟨rfl,rfl,rfl⟩:=hcut
         go_upto_if 68 with fail
         go_cut [] from 19 (fun wx=>(rd ltInt dk a' b' lim wb wp).pi.2=false/\At fY w blk off (rd ltInt dk a' b' lim wb wp).pi.1 wx)
         case first=>
          cases h68:(wb && wp && decide ((rd ltInt dk a' b' lim wb wp).hint= .increasing))
          .have Y0:=rd_pi_no h68;go_wp2_with fail;go_meet
           case rel=>exact⟨by rw[Y0],by rw[Y0];exact TS⟩
          .have Y0:=rd_pi_yes h68;have abC:=C.par blk off cap a' b' (rd ltInt dk a' b' lim wb wp).d2 wc hH3 (by omega) (by omega) (by omega);rw[s2,qZ,<-Y0]at abC;go_wp2_with (go_at_call 281;refine abC.mono ?_;rintro e w4 ⟨rfl,hw4⟩)
           all_goals first
            | (have Iu:(rd ltInt dk a' b' lim wb wp).pi.2=false:=by rw[Y0];assumption
               go_meet;exact⟨Iu,TS.step hblk (by rw[s3,s2]) hw4⟩)
            | (have Iu:(rd ltInt dk a' b' lim wb wp).pi.2=true:=by rw[Y0];assumption
               (try simp only[Exit.inBlock,Exit.then]);refine bodyPost_ret (results_none rfl _ _ _) rfl ?_
               refine⟨rfl,?_⟩;rw[<-A.out,pdq_done h12 hl0 Iu];exact TS.step hblk (by rw[s3,s2]) hw4)
         case rest=>
          obtain⟨Iu,Xy⟩:=hcut;obtain⟨hH5,ajA⟩:=Xy.holds hH (s3.trans qZ) hblk;have hcw:∀ t,t<d.size->wc.cell? ⟨blk,off+t,none⟩=some (.int .u32 (rd ltInt dk a' b' lim wb wp).pi.1[t]!):=fun t ht=>(hH5 t (by omega)).1;have hfw:∀ t,t<d.size->wc.frozen? ⟨blk,off+t,none⟩=false:=fun t ht=>(hH5 t (by omega)).2;go_upto_region 17 with fail
          go_cut [87] from 19 (fun s87 wx=>s87= .bool (decide (a'>0) && !ltInt (rd ltInt dk a' b' lim wb wp).pi.1[a'-1]! (rd ltInt dk a' b' lim wb wp).pi.1[(rd ltInt dk a' b' lim wb wp).pivot]!)/\At fY w blk off (rd ltInt dk a' b' lim wb wp).pi.1 wx)
          case first=>
           rcases Nat.eq_zero_or_pos a' with ha0|ha0
           .have agu:decide ((a':Int)>0)=false:=decide_eq_false (by omega)
            go_big_quiet (first|(go_at_call 282;refine Calls.quiet_of_same (fc _ _ _)))
            go_wp2_with fail;go_meet
            case rel=>exact⟨by simp[ha0],Xy.ahead nq⟩
           .have agu:(a':Int)>0:=by omega
            go_big_quiet (first|(go_at_call 282;refine Calls.quiet_of_same (fc _ _ _)))
            go_wp2_with fail;go_meet
            case rel=>exact⟨by simp[ha0],Xy.ahead nq⟩
          case rest=>
           obtain⟨rfl,Xz⟩:=hcut;obtain⟨hH6,ajB⟩:=Xz.holds hH (s3.trans qZ) hblk;clear hcw hfw;cases h87:(decide (a'>0) && !ltInt (rd ltInt dk a' b' lim wb wp).pi.1[a'-1]! (rd ltInt dk a' b' lim wb wp).pi.1[(rd ltInt dk a' b' lim wb wp).pivot]!)
           ·
            obtain⟨mid,ap,d4,hx⟩ :∃ mid ap d4,partition ltInt (rd ltInt dk a' b' lim wb wp).pi.1 a' b' (rd ltInt dk a' b' lim wb wp).pivot=(mid,ap,d4):=⟨(partition ltInt (rd ltInt dk a' b' lim wb wp).pi.1 a' b' (rd ltInt dk a' b' lim wb wp).pivot).1,(partition ltInt (rd ltInt dk a' b' lim wb wp).pi.1 a' b' (rd ltInt dk a' b' lim wb wp).pivot).2.1,(partition ltInt (rd ltInt dk a' b' lim wb wp).pi.1 a' b' (rd ltInt dk a' b' lim wb wp).pivot).2.2,rfl⟩;obtain⟨r1,r2,r3,r4,r5,r6,r7⟩:=round_part S.swo S.prt VN.1 VN.2 (show b'<=(rd ltInt dk a' b' lim wb wp).pi.1.size by omega) B3 hx;have abE:=C.prt blk off cap a' b' (rd ltInt dk a' b' lim wb wp).pivot (rd ltInt dk a' b' lim wb wp).pi.1 wc hH6 VN.1 VN.2 (by omega) (by omega);rw[s3,qZ,hx]at abE;have X:Aside (partition ltInt (rd ltInt dk a' b' lim wb wp).pi.1 a' b' (rd ltInt dk a' b' lim wb wp).pivot=(mid,ap,d4)):=hx;clear hx
            go_upto_if 113 with (go_at_call 284;refine abE.mono ?_;rintro e w7 ⟨rfl,hw7⟩)
            have hx:=X.out;have XA:At fY w blk off d4 w7:=Xz.step hblk r3 hw7;obtain⟨hH7,VD⟩:=XA.holds hH (r3.trans (s3.trans qZ)) hblk;by_cases h4:mid-a'<b'-mid
            .have h4z:(mid:Int)-(a':Int)<(b':Int)-(mid:Int):=(by omega);have hih:=ih blk off cap a' mid (rd ltInt dk a' b' lim wb wp).lim d4 w7 (by omega) hH7 VD (by omega) (by omega) (by omega) (ak (ah rd_lim_le Qm) Qn) r4;rw[r3,s3,qZ]at hih;obtain⟨pL,sL⟩:=S.pdq S.swo d4 a' mid (rd ltInt dk a' b' lim wb wp).lim true true (by omega) (by omega) r4;go_wp2_with (go_at_call 264;refine hih.mono ?_;rintro e w8 ⟨rfl,hw8⟩)
             go_roundg (b'-(mid+1))
             case measure=>omega
             case rel=>
              refine⟨mid+1,b',(rd ltInt dk a' b' lim wb wp).lim,decide (mid-a'≥(b'-a')/8),ap,pdq ltInt d4 a' mid (rd ltInt dk a' b' lim wb wp).lim true true,by simp,rfl,rfl,?_,rfl,by omega,by omega,af _,by omega,ah rd_lim_le Qm,by rw[pL.1,r3,s3,qZ],(r6 _ pL sL).1,XA.stepG hblk pL.1 hw8,?_⟩
              .exact congrArg aq (eighth (by omega) (by omega))
              .rw[<-A.out,pdq_left h12 hl0 Iu h87 (by rw[hx];exact⟨r1,r2⟩) (by rw[hx];exact h4),hx]
            .have h4z:¬ ((mid:Int)-(a':Int)<(b':Int)-(mid:Int)):=(by omega);have hih:=ih blk off cap (mid+1) b' (rd ltInt dk a' b' lim wb wp).lim d4 w7 (by omega) hH7 VD (by omega) (by omega) (by omega) (ak (ah rd_lim_le Qm) Qn) r5;rw[r3,s3,qZ]at hih;obtain⟨pL,sL⟩:=S.pdq S.swo d4 (mid+1) b' (rd ltInt dk a' b' lim wb wp).lim true true (by omega) (by omega) r5;go_wp2_with (go_at_call 264;refine hih.mono ?_;rintro e w8 ⟨rfl,hw8⟩)
             go_roundg (mid-a')
             case measure=>omega
             case rel=>
              refine⟨a',mid,(rd ltInt dk a' b' lim wb wp).lim,decide (b'-mid≥(b'-a')/8),ap,pdq ltInt d4 (mid+1) b' (rd ltInt dk a' b' lim wb wp).lim true true,rfl,rfl,rfl,?_,rfl,by omega,by omega,af _,by omega,ah rd_lim_le Qm,by rw[pL.1,r3,s3,qZ],(r7 _ pL sL).1,XA.stepG hblk pL.1 hw8,?_⟩
              .exact congrArg aq (eighth (by omega) (by omega))
              .rw[<-A.out,pdq_right h12 hl0 Iu h87 (by rw[hx];exact⟨r1,r2⟩) (by rw[hx];exact h4),hx]
           ·
            have Xw:=h87;simp only[Bool.and_eq_true,decide_eq_true_eq,Bool.not_eq_true']at Xw;obtain⟨mid,d4,hx⟩ :∃ mid d4,partitionEqual ltInt (rd ltInt dk a' b' lim wb wp).pi.1 a' b' (rd ltInt dk a' b' lim wb wp).pivot=(mid,d4):=⟨(partitionEqual ltInt (rd ltInt dk a' b' lim wb wp).pi.1 a' b' (rd ltInt dk a' b' lim wb wp).pivot).1,(partitionEqual ltInt (rd ltInt dk a' b' lim wb wp).pi.1 a' b' (rd ltInt dk a' b' lim wb wp).pivot).2,rfl⟩;obtain⟨r1,r2,r3,r4,_⟩:=round_eq S.swo S.peq Xw.1 VN.1 VN.2 (show b'<=(rd ltInt dk a' b' lim wb wp).pi.1.size by omega) B3 Xw.2 hx;have abD:=C.peq blk off cap a' b' (rd ltInt dk a' b' lim wb wp).pivot (rd ltInt dk a' b' lim wb wp).pi.1 wc hH6 VN.1 VN.2 (by omega) (by omega);rw[s3,qZ,hx]at abD;have X:Aside (partitionEqual ltInt (rd ltInt dk a' b' lim wb wp).pi.1 a' b' (rd ltInt dk a' b' lim wb wp).pivot=(mid,d4)):=hx;clear hx;go_wp2_with (go_at_call 283;refine abD.mono ?_;rintro e w7 ⟨rfl,hw7⟩)
            go_roundg (b'-mid)
            case measure=>omega
            case rel=>
             have hx:=X.out;exact⟨mid,b',(rd ltInt dk a' b' lim wb wp).lim,wb,wp,d4,rfl,rfl,rfl,rfl,rfl,r2,hb',af _,by omega,ah rd_lim_le Qm,by rw[r3,s3,qZ],r4,Xz.step hblk r3 hw7,by rw[<-A.out,pdq_eq h12 hl0 Iu h87 (by rw[hx];exact⟨r1,r2⟩),hx]⟩
def G8:Prop:=∀ (blk off cap a b limit:Nat) (d:Array Int) (w:World),Holds (ag .u32) w blk off d->blk<w.heap.size->a<=b->b<=d.size->d.size<4611686018427387904->limit<4611686018427387904->Below ltInt a b d->
 Calls Tryz.prog 264 #[.slice (some ⟨blk,off,none⟩) d.size cap,.int .i64 a,.int .i64 b,.int .i64 limit] w fun e w'=>
  e= .returned (.tuple #[])/\∃ n os,w'=grow (putRow (ag .u32) (ae w n) blk off (Sort.pdq ltInt d a b limit true true)) os
theorem UU (ahu:G8)(blk off cap:Nat)(d:Array Int)(w:World)(hH:Holds (ag .u32) w blk off d)(hblk:blk<w.heap.size)(hsz:d.size<4611686018427387904):
 Calls Tryz.prog 220 #[.slice (some ⟨blk,off,none⟩) d.size cap] w fun e w'=>e= .returned (.tuple #[])/\∃ n os,w'=grow (putRow (ag .u32) (ae w n) blk off (Sort.sort ltInt d)) os:=by
 have HH:ac (Holds (ag .u32) w blk off d):=hH;clear hH;have PX:∀ w,Calls Tryz.prog 167 #[.int .u64 (d.size:Int)] w fun e w'=>e= .returned (.int .i64 (bitsLen d.size:Nat))/\w'=w:=fun w=>by
  have h:=sL_bits_Len (d.size:Int) w (by omega) (by omega)
  rwa[Int.toNat_natCast,bitLen_eq _ (by omega)]at h
 have hk:bitsLen d.size<=62:=(bitsLen_le_iff d.size 62).2 (by omega);go_enter Tryz.func220,Tryz.ntmps220
 go_wp2_with (first
  | (go_at_call 167;refine (PX _).mono ?_;rintro e w' ⟨rfl,rfl⟩)
  | (go_at_call 264;refine (ahu blk off cap 0 d.size (bitsLen d.size) d _ (by exact HH.o) (by exact hblk) (Nat.zero_le _) (af _) hsz (by omega) (Or.inl rfl)).mono ?_;rintro e w' ⟨rfl,n,os,rfl⟩))
 go_end0
 exact⟨rfl,n,os,rfl⟩
theorem ur (p:Option Addr)(cap:Nat)(w:World):
 Calls Tryz.prog 264 #[.slice p 0 cap,.int .i64 0,.int .i64 0,.int .i64 0] w fun e w'=>e= .returned (.tuple #[])/\w'=w:=by
 go_enter Tryz.func264,Tryz.ntmps264
 go_wp2
 refine wp_loop_rounds 1 ?_;rw[rounds_succ];go_wp2_with (first|(go_at_call 276;refine (oO p cap _).mono ?_;rintro e w' ⟨rfl,rfl⟩));refine bodyPost_ret (results_none rfl _ _ _) rfl ?_;exact⟨rfl,rfl⟩
theorem ym (p:Option Addr)(cap:Nat)(w:World):
 Calls Tryz.prog 220 #[.slice p 0 cap] w fun e w'=>e= .returned (.tuple #[])/\w'=w:=by
 have PX:∀ w,Calls Tryz.prog 167 #[.int .u64 0] w fun e w'=>e= .returned (.int .i64 0)/\w'=w:=fun w=>sL_bits_Len 0 w (by omega) (by omega);go_enter Tryz.func220,Tryz.ntmps220
 go_wp2_with (first
  | (go_at_call 167;refine (PX _).mono ?_;rintro e w' ⟨rfl,rfl⟩)
  | (go_at_call 264;refine (ur p cap _).mono ?_;rintro e w' ⟨rfl,rfl⟩))
 go_end0
 exact⟨rfl,rfl⟩
end
end Go.Proofs.YtlkahgagmfhdaaaGreatDoor
