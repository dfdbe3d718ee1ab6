import Derived.Test.YtdoahpflemgaeaaGreatDoorJCloneH
import Derived.Test.YtdoahpflemgaeaaGreatDoorJParse
import Derived.Test.YtdoahpflemgaeaaGreatDoorJLive
import Derived.Test.YtdoahpflemgaeaaGreatDoorJRefG
import Derived.Test.YtdoahpflemgaeaaGreatDoorJBytesOf
import Derived.RangeFuncNested
import Derived.RangeFuncBound
import Derived.RangeFuncCalls
import Derived.RangeFuncLeaves
import Derived.Shelf.Abstract
import Derived.Shelf.RegionOpen
import Derived.WalkKit
import Derived.OwnWalkIn
import Derived.TacticsInMore
import Derived.LoopNIn
import Derived.LoopIn
set_option linter.unusedVariables false
set_option linter.unusedSectionVars false
namespace Go.Proofs.YtdoahpflemgaeaaGreatDoor
section
open Go.RowKit
attribute [local go_sem] Oper.semAt_some
section
variable {w:World} {p:HP} {h:HM} {l:List Ob}
end
end
section
open Go.RowKit
attribute [local go_sem] Oper.semAt_some
end
section
open Go.RowKit
attribute [local go_sem] Oper.semAt_some
section
variable {w:World} {p:HP} {h:HM} (R:RAt w p h) (f:h.Fit)
include R f
end
end
section
open Go.RowKit
attribute [local go_sem] Oper.semAt_some
def HM.bytesN (h:HM) (o:Nat) (n:Nat):List Nat:=(List.range n).map fun i=>h.byteN o (i:Nat)
theorem HM.bytesN_len (h:HM) (o n:Nat):(h.bytesN o n).length=n:=by simp [HM.bytesN]
theorem HM.bytesN_succ (h:HM) (o n:Nat):h.bytesN o (n+1)=h.bytesN o n++[h.byteN o (n:Nat)]:=by simp [HM.bytesN,List.range_succ]
def HM.rbE (h:HM) (o:Nat):Nat:=if h.isB o=false then 3 else if (h.hd (o / 2)).fmt=2 then 0 else 21
def RBytesP (h:HM) (o:Nat) (w:World) (d:Ending) (w':World):Prop:=
 Below w.heap.size w w'∧((h.rbE o≠0∧d = .returned (.tuple #[.slice none 0 0,.int .i64 (h.rbE o:Nat)]))∨
  (h.rbE o=0∧∃ v,d = .returned (.tuple #[v,.int .i64 0])∧w'.ownsRow w.heap.size 5 1 v (h.hd (o / 2)).len (u8c (h.bytesN o (h.hd (o / 2)).len))))
theorem ownsRow_grown {w w':World} {base:Nat} {e:TypeId} {v:Value} {n:Nat} {xs:List Value} (h:w.ownsRow base e 1 v n xs) (hb:Below w.heap.size w w'):w'.ownsRow base e 1 v n xs:=by
 refine⟨h.1,?_⟩
 rcases h.2 with h1 | ⟨g,cap,cur,h1,h2,h3,h4⟩
 ·exact .inl h1
 ·exact .inr ⟨g,cap,cur,h1,h2,(hb.block g (Array.getElem?_eq_some_iff.1 h3).1).trans h3,h4⟩
section
variable {w:World} {p:HP} {h:HM} (R:RAt w p h) (f:h.Fit) (o:Nat) (ho:o<4294967296) (hh:h.Heads)
include R f ho hh
set_option maxRecDepth 100000 in
set_option maxHeartbeats 4000000 in
theorem rbytes_any:Calls Tryz.prog 141 #[ptr p.g,.int .u32 o] w (RBytesP h o w):=by
 have HI:=Lib.hid (ris_any R f o ho)
 cases hi:h.isB o
 ·rw [hi] at HI
  have HF:=Lib.hid (show h.rbE o=3 by unfold HM.rbE; rw [if_pos hi])
  unfold ptr at HI ⊢
  clear R hi
  go_enter Tryz.func141,Tryz.ntmps141
  go_wp2_with fail
  refine HI.out.mono ?_
  rintro e w1 ⟨rfl,rfl⟩
  go_wp2_with fail
  go_ret2
  exact⟨Below.refl _ _,.inl ⟨by rw [HF.out]; decide,by rw [HF.out]; rfl⟩⟩
 ·rw [hi] at HI
  have hd:=HM.isB_hd hh hi
  have HH:=Lib.hid (rheader_any R f o ho hd)
  have HL:=Lib.hid (fun w' (hb:Below w.heap.size w w')=>rlen_any (R.below hb) f o ho hd)
  obtain⟨hlen,hsp,hsz,hfm,-⟩:=hd_parts f _ hd
  have hfl:=fld1
  unfold Hd.val at HH
  by_cases h2:(h.hd (o / 2)).fmt=2
  ·have HF:=Lib.hid (show h.rbE o=0 by unfold HM.rbE; rw [if_neg (by simp [hi]),if_pos h2])
   have hq:((((h.hd (o / 2)).fmt:Nat):Int) != 2)=false:=by simp; omega
   have hlb:(h.hd (o / 2)).len≤4194304:=by
    have h1:=hd.1
    have h3:=f.room
    have h4:=f.hi
    unfold Hd.len
    rw [if_pos h2]
    omega
   have HB:=Lib.hid (fun (k:Nat) (hk:k<(h.hd (o / 2)).len) w' (hb:Below w.heap.size w w')=>rbyte_any (R.below hb) f hh o ho (k:Int) (by omega))
   have HBL:=Lib.hid (fun k:Nat=>h.byteN_lt o (k:Int))
   have HBS:=Lib.hid (fun k=>h.bytesN_succ o k)
   have HLL:=Lib.hid (fun k=>h.bytesN_len o k)
   have HB0:=Lib.hid (show h.bytesN o 0=[] from rfl)
   clear R hi hd hsp
   generalize hX:h.hd (o / 2)=X at *
   have HXE:=Lib.hid hX
   clear hX
   generalize hLE:X.len=L at *
   have HLE:=Lib.hid hLE
   clear hLE
   obtain⟨i0,hi0,hz0,hz1,hz2⟩:=info_parts info_u8
   unfold ptr at HI HH HL HB ⊢
   go_enter Tryz.func141,Tryz.ntmps141
   go_wp2_with fail
   refine HI.out.mono ?_
   rintro e w1 ⟨rfl,rfl⟩
   go_wp2_with fail
   refine HH.out.mono ?_
   rintro e w1 ⟨rfl,hb1⟩
   have HB1:=Lib.hid hb1
   clear HI HH hb1
   go_wp2_with fail
   go_loopw [6,7] (fun v i wr=>∃ k:Nat,k≤L∧i = .int .i64 k∧wr.ownsRow w.heap.size 5 1 v k (u8c (h.bytesN o k))∧Below w.heap.size w wr) (fun _ i _=>L-(intOf i).toNat)
   case atStart=>exact⟨0,by omega,rfl,by rw [HB0.out]; exact⟨by simp [u8c],.inl ⟨rfl,rfl⟩⟩,HB1.out⟩
   case round=>
    clear HB1
    obtain⟨k,hk,rfl,hown,hbel⟩:=hrel
    have HOW:=Lib.hid hown
    have HBEL:=Lib.hid hbel
    have HLC:=Lib.hid (HL.out wr hbel)
    clear hown hbel
    rcases Nat.lt_or_ge k L with hlt | hge
    ·have hjt:decide ((k:Int)<(L:Int))=true:=by simp; omega
     have HKL:=Lib.hid hlt
     go_wp2_with fail
     refine HLC.out.mono ?_
     rintro e w2 ⟨rfl,hb2⟩
     have HB2:=Lib.hid (below_top HBEL.out hb2)
     have HOW2:=Lib.hid (ownsRow_grown HOW.out hb2)
     have HBC:=Lib.hid (HB.out k HKL.out w2 HB2.out)
     clear hb2 HLC HBEL HOW
     go_wp2_with fail
     refine HBC.out.mono ?_
     rintro e w3 ⟨rfl,hb3⟩
     have HB3:=Lib.hid (below_top HB2.out hb3)
     have HOW3:=Lib.hid (ownsRow_grown HOW2.out hb3)
     have hb256:=HBL.out k
     clear hb3 HBC HB2 HOW2
     generalize hby:h.byteN o (k:Int)=by_ at *
     have HBY:=Lib.hid hby
     clear hby
     have hk4:k<4194304:=by have:=HKL.out; omega
     go_wp2_with (at_builtin; refine wpList_append_any _ rfl (.tmp 33) (.tmp 35) _ rfl w.heap.size 5 i0 _ 1 1 Tryz.underlying56 hi0 hz0 hz1 hz2 rfl (by omega) u6 k _ rfl (HOW3.out.alloc _) (w3.heap.size+1) (some ⟨w3.heap.size,0,none⟩) 1 1 (u8c [by_]) rfl ⟨rfl,fun _=>⟨_,rfl,by simp,cell_one_new _ _ _⟩⟩ (one_u8c _) (by simp only [maxLen]; omega) (by omega) (by have:=HB3.out.size; simp; omega) ?_; intro v1 w5 hown5 hgrow hat5)
     go_roundw
     case rel=>
      refine⟨k+1,by have:=HKL.out; omega,by go_num,?_,below_grown (Nat.le_refl _) (HB3.out.alloc HB3.out.size _) hgrow (fun q hq=>(HOW3.out.lt q hq).1)⟩
      rw [HBS.out,HBY.out]
      unfold u8c at hown5 ⊢
      rw [List.map_append]
      exact hown5
     case measure=>
      show L-((k:Int)+1).toNat<L-(k:Int).toNat
      have:=HKL.out
      omega
    ·obtain rfl:k=L:=by omega
     have hjt:decide ((k:Int)<(k:Int))=false:=by simp
     clear hge hk
     go_wp2_with fail
     refine HLC.out.mono ?_
     rintro e w2 ⟨rfl,hb2⟩
     have HB2:=Lib.hid (below_top HBEL.out hb2)
     have HOW2:=Lib.hid (ownsRow_grown HOW.out hb2)
     clear hb2 HLC HBEL HOW
     go_wp2_with fail
     go_ret2
     refine⟨HB2.out,.inr ⟨HF.out,_,rfl,?_⟩⟩
     rw [HXE.out,HLE.out]
     exact HOW2.out
  ·have HF:=Lib.hid (show h.rbE o=21 by unfold HM.rbE; rw [if_neg (by simp [hi]),if_neg h2])
   have hq:((((h.hd (o / 2)).fmt:Nat):Int) != 2)=true:=by simp; omega
   clear R hi hd hsp HL h2
   generalize h.hd (o / 2)=X at *
   unfold ptr at HI HH ⊢
   go_enter Tryz.func141,Tryz.ntmps141
   go_wp2_with fail
   refine HI.out.mono ?_
   rintro e w1 ⟨rfl,rfl⟩
   go_wp2_with fail
   refine HH.out.mono ?_
   rintro e w1 ⟨rfl,hb1⟩
   have HB1:=Lib.hid hb1
   clear hb1
   go_wp2_with fail
   go_ret2
   exact⟨HB1.out,.inl ⟨by rw [HF.out]; decide,by rw [HF.out]; rfl⟩⟩
end
end
end Go.Proofs.YtdoahpflemgaeaaGreatDoor
