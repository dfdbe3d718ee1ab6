import Derived.Test.YtlkahgagmfhdaaaGreatDoorQCloneH
import Derived.Test.YtlkahgagmfhdaaaGreatDoorQMake
import Derived.Test.YtlkahgagmfhdaaaGreatDoorQLive
import Derived.Test.YtlkahgagmfhdaaaGreatDoorQAlloc
import Derived.Test.YtlkahgagmfhdaaaGreatDoorQShow
import Derived.Test.YtlkahgagmfhdaaaGreatDoorQOop
import Derived.Test.YtlkahgagmfhdaaaGreatDoorQMapIs
import Derived.Test.YtlkahgagmfhdaaaGreatDoorQLook
import Derived.Test.YtlkahgagmfhdaaaGreatDoorQMapOk
import Derived.Test.YtlkahgagmfhdaaaGreatDoorQHdF
import Derived.RangeFuncNested
import Derived.RangeFuncBound
import Derived.RangeFuncCalls
import Derived.RangeFuncLeaves
import Derived.Shelf.Abstract
import Derived.Shelf.RegionOpen
import Derived.WalkKit
import Derived.OwnWalkIn
import Derived.TacticsInMore
import Derived.LoopNIn
import Derived.LoopIn
import Derived.Maps.OwnSet
import Derived.Lib.SliceRun
import Derived.Lib.QuietBelow
import Derived.ScopeJumps
set_option linter.unusedVariables false
set_option linter.unusedSimpArgs false
set_option linter.unusedSectionVars false
namespace Go.Proofs.YtlkahgagmfhdaaaGreatDoor
section
open Go.RowKit
attribute [local go_sem] Oper.semAt_some
structure KpB (m0 n0:Nat) (w w':World):Prop where
 os:w'.os=w.os
 tape:w'.tape=w.tape
 output:w'.output=w.output
 size:w.heap.size≤w'.heap.size
 cells:∀ k cs t fr,k<m0∨n0≤k→w.heap[k]? = some (.cells cs t fr)→w'.heap[k]? = some (.cells cs t fr)
theorem KpB.refl (m0 n0:Nat) (w:World):KpB m0 n0 w w:=⟨rfl,rfl,rfl,Nat.le_refl _,fun _ _ _ _ _ h=>h⟩
theorem KpB.trans {m0 n0:Nat} {a b c:World} (h:KpB m0 n0 a b) (k:KpB m0 n0 b c):KpB m0 n0 a c:=
 ⟨k.os.trans h.os,k.tape.trans h.tape,k.output.trans h.output,Nat.le_trans h.size k.size,fun j cs t fr hj h1=>k.cells j cs t fr hj (h.cells j cs t fr hj h1)⟩
theorem lt_of_get {w:World} {k:Nat} {o:Obj} (h:w.heap[k]? = some o):k<w.heap.size:=by
 rcases Nat.lt_or_ge k w.heap.size with h1 | h1
 ·exact h1
 ·rw [Array.getElem?_eq_none h1] at h; cases h
theorem KpB.setCell {m0 n0:Nat} {w w':World} (h:KpB m0 n0 w w') {a:Addr} (h1:m0≤a.block) (h2:a.block<n0) (u:Value):KpB m0 n0 w (w'.setCell a u):=
 ⟨h.os,h.tape,h.output,by simpa [World.setCell] using h.size,fun k cs t fr hk hh=>(Below.heap_setCell w' a u k (fun e=>by omega)).trans (h.cells k cs t fr hk hh)⟩
theorem KpB.book {m0 n0:Nat} (W:World) (l:Nat) (o o':Obj) (h:W.heap[l]? = some o) (hc:o.isCells=false):KpB m0 n0 W (W.putObj l o'):=
 ⟨rfl,rfl,rfl,by simp,fun k cs t fr _ hk=>by
   have hne:k≠l:=by rintro rfl; rw [hk] at h; injection h with h; subst h; simp [Obj.isCells] at hc
   exact ((grownBy_putObj' W l o').block k (lt_of_get hk) (fun e=>hne (by injection e))).trans hk⟩
theorem Blk.kept {m0 n0:Nat} {w w':World} {g:Nat} {t:TypeId} {cs:Array Value} (h:Blk w g t cs) (k:KpB m0 n0 w w') (hg:g<m0∨n0≤g):Blk w' g t cs:=k.cells g cs t (0,0) hg h
theorem Row.kept {m0 n0:Nat} {w w':World} {g c:Nat} {e:TypeId} {xs:List Value} (h:Row w g e c xs) (k:KpB m0 n0 w w') (hg:g<m0∨n0≤g):Row w' g e c xs:=by
 obtain⟨cur,h,r⟩:=h
 exact⟨cur,h.kept k hg,r⟩
theorem HAt.kept {m0 n0:Nat} {w w':World} {p:HP} {h:HM} (H:HAt w p h) (k:KpB m0 n0 w w') (hp:∀ j,p.has j→j<m0∨n0≤j):HAt w' p h:=
 ⟨H.1.kept k (hp _ (.inl rfl)),H.2.1.kept k (hp _ (.inr (.inl rfl))),H.2.2.1.kept k (hp _ (.inr (.inr (.inl rfl)))),H.2.2.2.kept k (hp _ (.inr (.inr (.inr rfl))))⟩
def oopI (l:List Ob) (k:Nat):Nat:=if k<l.length then 2*posOf (l.take k) else 0
def allV (l:List Ob) (i:Fin l.length):Array Value:=#[.int .u32 ((2*posOf (l.take i.1):Nat):Int),(l[i.1]'i.2).x.val]
def mesO (v:Value):Nat:=if intOf v=0 then 0 else 4294967296-(intOf v).toNat
theorem mesO_nat (n:Nat):mesO (.int .u32 (n:Int))=if n=0 then 0 else 4294967296-n:=by
 show (if ((n:Int))=0 then 0 else 4294967296-((n:Int)).toNat)=_
 by_cases h:n=0
 ·subst h; rfl
 ·rw [if_neg (by omega),if_neg h,Int.toNat_natCast]
theorem mesO_lt {o no:Nat} (h:no=0∨o<no) (h0:0<o) (h1:o<4294967296) (h2:no<4294967296):mesO (.int .u32 (no:Int))<mesO (.int .u32 (o:Int)):=by
 rw [mesO_nat,mesO_nat]
 rcases h with h | h
 ·rw [if_pos h,if_neg (by omega)]; omega
 ·rw [if_neg (by omega),if_neg (by omega)]; omega
theorem posOf_take_lt {h:HM} {l:List Ob} (G:h.Good l) (k:Nat) (hk:k<l.length):posOf (l.take k)+3≤h.words.length:=by
 have L:=G.laid
 have e:l=l.take k++l[k] :: l.drop (k+1):=by rw [List.getElem_cons_drop,List.take_append_drop]
 have L':=L
 rw [e] at L'
 have:=L'.words_len
 omega
theorem posOf_pos (a:List Ob):1≤posOf a:=by unfold posOf; omega
theorem posOf_take_succ {l:List Ob} (k:Nat) (hk:k<l.length):posOf (l.take k)<posOf (l.take (k+1)):=by
 have et:l.take (k+1)=l.take k++[l[k]]:=by rw [List.take_add_one,List.getElem?_eq_getElem hk]; rfl
 rw [et,posOf_snoc]
 omega
section
variable {w:World} {p:HP} {h:HM} {l:List Ob}
theorem split_at (l:List Ob) (k:Nat) (hk:k<l.length):l=l.take k++l[k] :: l.drop (k+1):=by
 rw [List.getElem_cons_drop,List.take_append_drop]
theorem first_oopI (G:h.Good l):h.objM 1=oopI l 0:=by
 have:h.objM (posOf [])=oopAt [] l:=HM.Laid.objM_at (a:=[]) G.laid
 change h.objM 1=_ at this
 rw [this]
 unfold oopI oopAt
 cases l with
 | nil=>rfl
 | cons b l=>simp
theorem next_oopI (G:h.Good l) (k:Nat) (hk:k<l.length):h.nextO (2*posOf (l.take k))=oopI l (k+1):=by
 have L:=G.laid
 have e:=split_at l k hk
 have L':=L
 rw [e] at L'
 rw [L'.nextO_at]
 have et:l.take k++[l[k]]=l.take (k+1):=by rw [List.take_add_one,List.getElem?_eq_getElem hk]; rfl
 rw [et]
 unfold oopI oopAt
 rcases Nat.lt_or_ge (k+1) l.length with h1 | h1
 ·rw [if_pos h1]
  cases hd:l.drop (k+1) with
  | nil=>have:=congrArg List.length hd; simp at this; omega
  | cons b c=>rfl
 ·rw [List.drop_of_length_le h1,if_pos rfl,if_neg (by omega)]
theorem isB_at (G:h.Good l) (k:Nat) (hk:k<l.length):h.isB (2*posOf (l.take k))=true:=
 (G.laid.isB_iff _).2 ⟨_,_,_,split_at l k hk,rfl⟩
theorem hd_at' (G:h.Good l) (k:Nat) (hk:k<l.length):h.hd (posOf (l.take k))=(l[k]).x:=by
 have L:=G.laid
 have e:=split_at l k hk
 have L':=L
 rw [e] at L'
 have:=L'.hd_at
 exact this
end
set_option maxRecDepth 100000 in
set_option maxHeartbeats 4000000 in
theorem all_stops {w:World} {p:HP} {h:HM} {l:List Ob} (H:HAt w p h) (G:h.Good l) (hs:Spares w) (n Bh m0:Nat) (hbox:w.cell? ⟨Bh,0,none⟩=some (ptr p.g)) (hsp:0<m0):
 SeqStopsK Fence.wide n Tryz.prog 129 #[.pointer (some ⟨Bh,0,none⟩)] (allV l) (KpB m0 w.heap.size) (fun xs=>xs=List.finRange l.length) (fun pre=>pre <+: List.finRange l.length) l.length w:=
 fun lp J Jx W hW hJ hJx hY h0=>by
 have hBh:=World.block_lt_of_cell? _ _ hbox
 have HW:=H.below hW
 have hbW:W.cell? ⟨Bh,0,none⟩=some (ptr p.g):=(hW.cell (p:=⟨Bh,0,none⟩) hBh).trans hbox
 have HC:=Lib.hid (Clone_any HW G.fit)
 have HsW:=hs.below hW
 refine callsIn_of_wp Tryz.func129 rfl trivial ?_ rfl
 simp only [Tryz.ntmps129,List.size_toArray,List.length_cons,List.length_nil,Nat.reduceAdd,Nat.reduceSub,Array.replicate_succ,Array.replicate_zero,List.push_toArray,List.append_toArray,List.nil_append,List.cons_append]
 unfold ptr at hbW HC
 have HY:=Lib.hid hY
 have HJ:=Lib.hid (show ∀ s A B,J s A→Below A.heap.size A B→J s B from fun s A B hs hb=>hJ s A B none hs ⟨hb.os,hb.tape,hb.output,hb.size,fun k hk _=>hb.block k hk⟩ (fun r e=>by cases e))
 have HJ0:=Lib.hid h0
 have HWD:=Lib.hid hW
 clear hY hJ hJx h0 hW
 gi_wp2_with fail
 refine⟨trivial,fun hh=>(by cases hh),(callsIn_wide.2 HC.out).mono ?_⟩
 rintro e W1 ⟨pc,rfl,Hc,hnew,hb1⟩
 have HJ1:=HJ.out _ _ _ HJ0.out hb1
 have Hs1:=HsW.below hb1
 have HN:=Lib.hid hnew
 have HF:=Lib.hid (first_any Hc G.fit)
 rw [first_oopI G] at HF
 unfold ptr at HF
 clear hbW hnew
 gi_wp2_with fail
 refine⟨trivial,fun hh=>(by cases hh),(callsIn_wide.2 HF.out).mono ?_⟩
 rintro e W2 ⟨rfl,rfl⟩
 have HH:=Lib.hid (show HAt W1 pc h∧Spares W1∧J ((List.finRange l.length).take 0) W1 from⟨Hc,Hs1,HJ1⟩)
 clear Hc Hs1 HJ1 hb1
 gi_wp2_with fail
 gi_loopw [4] (fun o wr=>∃ k:Nat,k≤l.length∧o = .int .u32 ((oopI l k:Nat):Int)∧HAt wr pc h∧Spares wr∧J ((List.finRange l.length).take k) wr) (fun o wr=>mesO o)
 case atStart=>exact⟨0,by omega,rfl,HH.out.1,HH.out.2.1,HH.out.2.2⟩
 case round=>
  obtain⟨k,hk,rfl,Hk,hsk,hjk⟩:=hrel
  by_cases hlt:k<l.length
  ·have hroom:=G.fit.room
   have hhi:=G.fit.hi
   have hpl:=posOf_take_lt G k hlt
   have hpp:=posOf_pos (l.take k)
   have hO:=Lib.hid (show oopI l k=2*posOf (l.take k) by unfold oopI; rw [if_pos hlt])
   have hN:=Lib.hid (next_oopI G k hlt)
   have hB:=isB_at G k hlt
   have HX:=Lib.hid (hd_at' G k hlt)
   have HAT:=Lib.hid (fun w=>at_any pc.g (2*posOf (l.take k)) (by omega) (objB_pos _) w)
   have HHD:=Lib.hid (fun w' (H:HAt w' pc h) (hs:Spares w')=>header_any H G.fit hs (posOf (l.take k)) (G.laid.heads _ (by unfold HM.isB at hB; simp only [Bool.and_eq_true,half_pos] at hB; exact hB.2)))
   have HNX:=Lib.hid (fun w' (H:HAt w' pc h) (hs:Spares w')=>next_any H G.fit G.laid.heads hs (2*posOf (l.take k)) (by omega))
   have HNV:=Lib.hid (show h.nextV (2*posOf (l.take k)) = .tuple #[.int .u32 (oopI l (k+1):Nat),.int .i64 0] by unfold HM.nextV; rw [if_pos hB,hN.out])
   have HME:=Lib.hid (show oopI l (k+1)=0∨2*posOf (l.take k)<oopI l (k+1) by
    unfold oopI
    split
    ·have:=posOf_take_succ k hlt; right; omega
    ·exact .inl rfl)
   have HMX:=Lib.hid (show oopI l (k+1)<4294967296 by
    unfold oopI
    split
    ·rename_i h1; have:=posOf_take_lt G (k+1) h1; omega
    ·omega)
   have HTK:=Lib.hid (show (List.finRange l.length).take k++[⟨k,hlt⟩]=(List.finRange l.length).take (k+1) by
    rw [List.take_add_one,List.getElem?_eq_getElem (by simpa using hlt)]; simp)
   have HPL:=Lib.hid (show ((List.finRange l.length).take k).length<l.length by simp; omega)
   have HAV:=Lib.hid (show allV l ⟨k,hlt⟩=#[.int .u32 ((2*posOf (l.take k):Nat):Int),.agg #[.int .i64 (l[k].x.size:Nat),.int .i64 (l[k].x.fmt:Nat),.int .i64 (l[k].x.spare:Nat),.int .u32 (l[k].x.cls:Nat),.int .u32 (l[k].x.ser:Nat)]] from rfl)
   have HXV:=Lib.hid (show (h.hd (posOf (l.take k))).val = .agg #[.int .i64 (l[k].x.size:Nat),.int .i64 (l[k].x.fmt:Nat),.int .i64 (l[k].x.spare:Nat),.int .u32 (l[k].x.cls:Nat),.int .u32 (l[k].x.ser:Nat)] by rw [HX.out]; rfl)
   have HK:=Lib.hid (show HAt wr pc h∧Spares wr∧J ((List.finRange l.length).take k) wr from⟨Hk,hsk,hjk⟩)
   have HYk:=Lib.hid (fun W1 hj=>HY.out ((List.finRange l.length).take k) ⟨k,hlt⟩ W1 hj HPL.out)
   rw [HAV.out] at HYk
   rw [hO.out]
   rw [HXV.out] at HHD
   rw [HNV.out] at HNX
   rw [half_pos] at HAT
   clear Hk hsk hjk hB hO HX hN HXV HNV HAV HPL HH
   generalize (⟨k,hlt⟩ :Fin l.length)=xk at *
   generalize l[k].x=X at *
   have ho:(((2*posOf (l.take k):Nat):Int) != 0)=true:=by simp; omega
   have HO32:=Lib.hid (show 2*posOf (l.take k)<4294967296∧0<2*posOf (l.take k) by omega)
   generalize hq:2*posOf (l.take k)=o at *
   clear hq
   generalize posOf (l.take k)=q at *
   unfold ptr at HAT HHD HNX
   gi_wp2_with fail
   refine⟨trivial,fun hh=>(by cases hh),(callsIn_wide.2 (HAT.out _)).mono ?_⟩
   rintro e W3 ⟨rfl,rfl⟩
   gi_wp2_with fail
   refine⟨trivial,fun hh=>(by cases hh),(callsIn_wide.2 (HHD.out _ HK.out.1 HK.out.2.1)).mono ?_⟩
   rintro e W4 ⟨rfl,hb4⟩
   have HK4:=Lib.hid (show HAt W4 pc h∧Spares W4∧J ((List.finRange l.length).take k) W4 from⟨HK.out.1.below hb4,HK.out.2.1.below hb4,HJ.out _ _ _ HK.out.2.2 hb4⟩)
   clear hb4 HK
   obtain⟨fn,tmps,assign,body,hy,hR⟩:=HYk.out W4 HK4.out.2.2
   gi_wp2_with fail
   refine⟨fun hh=>(by cases hh),hR.mono ?_⟩
   rintro e W5 (⟨rfl,hJ5,hk5⟩ | ⟨rfl,hx5⟩)
   ·have HK5:=Lib.hid (show HAt W5 pc h∧Spares W5∧J ((List.finRange l.length).take (k+1)) W5 from
     ⟨HK4.out.1.kept hk5 (fun j hj=> .inr (Nat.le_trans HWD.out.size (HN.out j hj))),(fun i hi=>by
       have hc:=HK4.out.2.1 i hi
       have hb:=World.block_lt_of_cell? _ _ hc
       cases ho:W4.heap[0]? with
       | none=>simp [World.cell?,ho] at hc
       | some ob=>
         cases ob with
         | cells cs t fr=>exact (World.cell?_of_block (a:=⟨0,i,none⟩) ((hk5.cells _ cs t fr (.inl hsp) ho).trans ho.symm)).trans hc
         | _=>simp [World.cell?,ho] at hc),by rw [← HTK.out]; exact hJ5⟩)
    clear hJ5 hk5 hy hR HK4
    gi_wp2_with fail
    refine⟨trivial,fun hh=>(by cases hh),(callsIn_wide.2 (HNX.out _ HK5.out.1 HK5.out.2.1)).mono ?_⟩
    rintro e W6 ⟨rfl,hb6⟩
    have HK6:=Lib.hid (show HAt W6 pc h∧Spares W6∧J ((List.finRange l.length).take (k+1)) W6 from⟨HK5.out.1.below hb6,HK5.out.2.1.below hb6,HJ.out _ _ _ HK5.out.2.2 hb6⟩)
    clear hb6 HK5
    generalize hno:oopI l (k+1)=no at *
    have HNO:=Lib.hid hno
    clear hno
    gi_wp2_with fail
    go_roundw
    case rel=>exact⟨k+1,by omega,by rw [HNO.out],HK6.out.1,HK6.out.2.1,HK6.out.2.2⟩
    case measure=>exact mesO_lt HME.out HO32.out.2 HO32.out.1 HMX.out
   ·clear hy HK4
    gi_wp2_with fail
    refine bodyPost_ret (results_none rfl _ _ _) rfl ?_
    exact⟨⟨_,rfl⟩,.inr ⟨_,⟨(List.finRange l.length).drop (k+1),by rw [HTK.out,List.take_append_drop]⟩,hx5⟩⟩
  ·obtain rfl:k=l.length:=by omega
   have hO:=Lib.hid (show oopI l l.length=0 by unfold oopI; rw [if_neg hlt])
   have HFin:=Lib.hid (show J (List.finRange l.length) wr by have:=hjk; rw [List.take_of_length_le (by simp)] at this; exact this)
   rw [hO.out]
   clear Hk hsk hjk hlt hk
   gi_wp2_with fail
   go_end0
   exact⟨⟨_,rfl⟩,.inl ⟨_,rfl,HFin.out⟩⟩
end
section
open Go.RowKit
attribute [local go_sem] Oper.semAt_some
theorem all_any (g:Nat) (w:World):Calls Tryz.prog 53 #[ptr g] w fun e w'=>e = .returned (.func (.func 129) #[] #[.pointer (some ⟨w.heap.size,0,none⟩)])∧w'=w.alloc (.cells #[ptr g] 23):=by
 unfold ptr
 go_enter Tryz.func53,Tryz.ntmps53
 go_wp2_with fail
 go_ret
 exact⟨rfl,rfl⟩
end
section
open Go.RowKit
attribute [local go_sem] Oper.semAt_some
section
variable {w:World} {p:HP} {h:HM} (R:RAt w p h) (f:h.Fit)
include R f
theorem rfirst_any:Calls Tryz.prog 80 #[ptr p.g] w (Said (.int .u32 (h.objM 1:Nat)) w):=by
 have c1:=R.c1
 have hone:=f.one
 have hroom:=f.room
 have hhi:=f.hi
 unfold ptr
 by_cases h1:h.words.length=1
 ·have HF:=Lib.hid (show h.objM 1=0 by unfold HM.objM; rw [if_pos (by omega)])
  have hb:(((h.words.length:Nat):Int) == 1)=true:=by simp; omega
  clear h1 R
  generalize h.words.length=N at *
  go_enter Tryz.func80,Tryz.ntmps80
  go_wp2_with fail
  go_ret
  exact⟨by rw [HF.out]; rfl,rfl⟩
 ·have HF:=Lib.hid (show h.objM 1=2 by unfold HM.objM; rw [if_neg (by omega)])
  have hb:(((h.words.length:Nat):Int) == 1)=false:=by simp; omega
  clear h1 R
  generalize h.words.length=N at *
  go_enter Tryz.func80,Tryz.ntmps80
  go_wp2_with fail
  go_ret
  exact⟨by rw [HF.out]; rfl,rfl⟩
set_option maxRecDepth 100000 in
set_option maxHeartbeats 4000000 in
theorem rnext_any (hh:h.Heads) (o:Nat) (ho:o<4294967296) (hi:h.isB o=true):Calls Tryz.prog 150 #[ptr p.g,.int .u32 o] w (Told (.int .u32 (h.nextO o:Nat)) w):=by
 have hd:=HM.isB_hd hh hi
 have HH:=Lib.hid (rheader_any R f o ho hd)
 have HC:=Lib.hid (fun w' (hb:Below w.heap.size w w')=>(R.below hb).c1)
 have hfl:=fld0
 have hroom:=f.room
 have hhi:=f.hi
 have hle:=hd.1
 have hs:=(HM.hd_fit f (o / 2)).size
 unfold Hd.val at HH
 unfold ptr at HH ⊢
 have hq:((o:Int) / 2)=((o / 2:Nat):Int):=by omega
 have HN:h.nextO o=h.objM (o / 2+3+(h.hd (o / 2)).size):=rfl
 clear R hi hd
 generalize h.hd (o / 2)=X at *
 generalize o / 2=q at *
 have HF:=Lib.hid HN
 clear HN
 by_cases he:q+3+X.size=h.words.length
 ·have HF2:=Lib.hid (show h.nextO o=0 by rw [HF.out]; unfold HM.objM; rw [if_pos (by omega)])
  have hb:(((q:Int)+3+(X.size:Int)) == ((h.words.length:Nat):Int))=true:=by simp; omega
  clear HF
  generalize h.words.length=N at *
  go_enter Tryz.func150,Tryz.ntmps150
  go_wp2_with fail
  refine HH.out.mono ?_
  rintro e w1 ⟨rfl,hb1⟩
  have c1:=HC.out w1 hb1
  have HB1:=Lib.hid hb1
  clear hb1 HC
  go_wp2_with fail
  go_ret
  exact⟨by rw [HF2.out]; rfl,HB1.out⟩
 ·have HF2:=Lib.hid (show h.nextO o=2*(q+3+X.size) by rw [HF.out]; unfold HM.objM; rw [if_neg (by omega)])
  have hb:(((q:Int)+3+(X.size:Int)) == ((h.words.length:Nat):Int))=false:=by simp; omega
  clear HF
  generalize h.words.length=N at *
  go_enter Tryz.func150,Tryz.ntmps150
  go_wp2_with fail
  refine HH.out.mono ?_
  rintro e w1 ⟨rfl,hb1⟩
  have c1:=HC.out w1 hb1
  have HB1:=Lib.hid hb1
  clear hb1 HC
  go_wp2_with fail
  go_ret
  exact⟨by rw [HF2.out]; rw [show (((2*(q+3+X.size):Nat)):Int)=2*((q:Int)+3+(X.size:Int)) by omega]; rfl,HB1.out⟩
end
end
section
open Go.RowKit
attribute [local go_sem] Oper.semAt_some
section
variable {w:World} {p:HP} {h:HM} (R:RAt w p h) (f:h.Fit) (o:Nat) (ho:o<4294967296) (hh:h.Heads)
include R f ho hh
end
end
section
open Go.RowKit Go.Sort Go.Lib
section
variable {w:World} {p:HP} {h:HM} (R:RAt w p h) (f:h.Fit) (hh:h.Heads) (hp:Pow w) (o:Nat) (ho:o<4294967296) (hi:h.isB o=true)
include R f hh hp ho hi
end
end
section
open Go.RowKit
attribute [local go_sem] Oper.semAt_some
end
section
open Go.RowKit
attribute [local go_sem] Oper.semAt_some
end
section
open Go.RowKit Go.Maps
attribute [local go_sem] Oper.semAt_some
theorem spareE_last (ys:List Nat) {y s:Nat} (hs:s≤3) (hy:y<4294967296):spareE (ys++[y]) s=0↔y / 2 ^ (32-8*s)=0:=by
 have e:(bytesM (ys++[y])).drop (4*(ys++[y]).length-s)=(bytes4 y).drop (4-s):=by
  rw [bytesM_app,List.drop_append,List.drop_eq_nil_of_le (by rw [bytesM_len]; simp; omega),List.nil_append,bytesM_len]
  have:bytesM [y]=bytes4 y:=by simp [bytesM]
  rw [this]
  congr 1
  simp; omega
 unfold spareE
 rw [e]
 have h4:s=0∨s=1∨s=2∨s=3:=by omega
 rcases h4 with rfl | rfl | rfl | rfl
 ·simp [bytes4]; omega
 ·simp [bytes4]; omega
 ·simp [bytes4]; omega
 ·simp [bytes4]; omega
def HM.badF (h:HM) (b:Ob) (y:Nat):Bool:=b.x.ptrB && !h.valB y
def badS (b:Ob) (k y:Nat):Bool:=(decide (k+1=b.x.size) && !decide (y / 2 ^ (32-8*b.x.spare)=0)) && decide (0<b.x.spare)
def HM.okTo (h:HM) (b:Ob) (k:Nat):Prop:=∀ j,j<k→h.badF b (b.fs.getD j 0)=false∧badS b j (b.fs.getD j 0)=false
theorem HM.okTo_succ {h:HM} {b:Ob} {k:Nat} (ho:h.okTo b k) (h1:h.badF b (b.fs.getD k 0)=false) (h2:badS b k (b.fs.getD k 0)=false):h.okTo b (k+1):=fun j hj=>by
 rcases Nat.lt_or_ge j k with h3 | h3
 ·exact ho j h3
 ·obtain rfl:j=k:=by omega
  exact⟨h1,h2⟩
theorem may_spare {x:Hd} (m:x.may=true):x.size≤65535∧(0<x.spare→x.fmt=2∧0<x.size):=by
 unfold Hd.may at m
 simp only [Bool.and_eq_true,Bool.or_eq_true,decide_eq_true_eq] at m
 omega
theorem HM.okTo_ob {h:HM} {b:Ob} (K:b.Ok) (ho:h.okTo b b.x.size):(b.x.ptrB=true→∀ f∈b.fs,h.valB f=true)∧(b.x.fmt=2→spareE b.fs b.x.spare=0):=by
 have hsz:=K.size
 constructor
 ·intro hp f hf
  obtain⟨j,hj,rfl⟩:=List.mem_iff_getElem.1 hf
  have:=(ho j (by omega)).1
  rw [List.getD_eq_getElem?_getD,List.getElem?_eq_getElem hj] at this
  unfold HM.badF at this
  rw [hp] at this
  simpa using this
 ·intro h2
  by_cases hs:b.x.spare=0
  ·rw [hs]; exact spareE_zero _
  ·have hm:=(may_spare K.may).2 (by omega)
   have hs3:b.x.spare≤3:=by have:=K.fit.spare; omega
   have h1:=(ho (b.x.size-1) (by omega)).2
   have hne:b.fs≠[]:=fun e=>by rw [e] at hsz; simp at hsz; omega
   have hlast:b.fs.getD (b.x.size-1) 0=b.fs.getLast hne:=by
    rw [List.getLast_eq_getElem,List.getD_eq_getElem?_getD,List.getElem?_eq_getElem (by omega)]
    simp only [Option.getD_some]
    congr 1
    omega
   rw [hlast] at h1
   unfold badS at h1
   rw [decide_eq_true (show b.x.size-1+1=b.x.size by omega),decide_eq_true (show 0<b.x.spare by omega)] at h1
   have h3:b.fs.getLast hne / 2 ^ (32-8*b.x.spare)=0:=by simpa using h1
   have h4:=(spareE_last b.fs.dropLast hs3 (K.f32 _ (List.getLast_mem hne))).2 h3
   rw [List.dropLast_concat_getLast] at h4
   exact h4
theorem HM.not_ob_of_bad {h:HM} {b:Ob} {k:Nat} (K:b.Ok) (hk:k<b.x.size) (hb:h.badF b (b.fs.getD k 0)=true∨badS b k (b.fs.getD k 0)=true):¬ h.ObOk b:=fun ok=>by
 have hsz:=K.size
 have hkl:k<b.fs.length:=by omega
 have hg:b.fs.getD k 0=b.fs[k]'hkl:=by rw [List.getD_eq_getElem?_getD,List.getElem?_eq_getElem hkl]; rfl
 rcases hb with hb | hb
 ·unfold HM.badF at hb
  simp only [Bool.and_eq_true,Bool.not_eq_true'] at hb
  have:=ok.flds hb.1 (b.fs.getD k 0) (by rw [hg]; exact List.getElem_mem hkl)
  rw [hb.2] at this
  cases this
 ·unfold badS at hb
  simp only [Bool.and_eq_true,decide_eq_true_eq,Bool.not_eq_true',decide_eq_false_iff_not] at hb
  obtain⟨⟨h1,h2⟩,h3⟩:=hb
  have hm:=(may_spare K.may).2 h3
  have hs3:b.x.spare≤3:=by have:=K.fit.spare; omega
  have hne:b.fs≠[]:=fun e=>by rw [e] at hsz; simp at hsz; omega
  have h4:=ok.spare hm.1
  rw [← List.dropLast_concat_getLast hne] at h4
  have h5:=(spareE_last b.fs.dropLast hs3 (K.f32 _ (List.getLast_mem hne))).1 h4
  apply h2
  rw [hg]
  rw [List.getLast_eq_getElem] at h5
  have:b.fs.length-1=k:=by omega
  simp only [this] at h5
  exact h5
theorem RAt.fields {w:World} {p:HP} {h:HM} {a c:List Ob} {b:Ob} (H:RAt w p h) (L:h.Laid (a++b :: c)) {j:Nat} (hj:j<b.fs.length):w.cell? ⟨p.gw,posOf a+3+j,none⟩=some (.int .u32 (b.fs.getD j 0:Nat)):=by
 have hwl:=L.words_len
 have:=H.word (i:=posOf a+3+j) (by omega)
 rw [this]
 have e:=L.f_at j hj
 unfold fw at e
 rw [half_pos] at e
 rw [← e]
 rfl
set_option maxRecDepth 100000 in
set_option maxHeartbeats 4000000 in
theorem keeps_any {w:World} {p:HP} {h:HM} {l:List Ob} (R:RAt w p h) (f:h.Fit) (L:h.Laid l):Calls Tryz.prog 149 #[ptr p.g] w (SoundP h l w):=by
 have hmm:=@run_makeMap Tryz.prog
 have hW1:Below w.heap.size w (w.alloc (.map #[] 0)):=(Below.refl _ _).alloc (Nat.le_refl _) _
 have HR:=Lib.hid R; have HF:=Lib.hid f; have HL:=Lib.hid L
 have HFI:=Lib.hid (fun (w':World) (hb:Below w.heap.size w w')=>rfirst_any (R.below hb) f)
 have HFO:=Lib.hid (show h.objM 1=oopAt [] l from HM.Laid.objM_at (a:=[]) L)
 have MM:=MapIs.made w 32
 clear R f L
 unfold ptr at HFI ⊢
 go_enter Tryz.func149,Tryz.ntmps149
 go_wp2_with fail
 refine (HFI.out _ hW1).mono ?_
 rintro e w' ⟨rfl,rfl⟩
 rw [HFO.out]
 generalize hW:w.alloc (.map #[] 0)=W1 at *
 clear hW
 have HM0:=Lib.hid (show SoundMid h w.heap.size [] w W1 from⟨h.upTo_nil,MM,hW1⟩)
 clear MM hW1
 go_wp2_with fail
 have hne0:w.heap.size≠p.gw:=by have:=HR.out.lt (.inr (.inl rfl)); omega
 go_loopg [4] (l.length+1) (fun k o wr=>∃ a c,l=a++c∧k=c.length+1∧o = .int .u32 (oopAt a c:Nat)∧SoundMid h w.heap.size a w wr)
 case atStart=>exact⟨[],l,rfl,rfl,rfl,HM0.out⟩
 case round =>
  obtain⟨a,c,hl,hgk,rfl,⟨hup,hmap,hb⟩⟩:=hrel
  have HLL:=Lib.hid hl
  have HGK:=Lib.hid hgk
  clear HM0 hl hgk
  cases c with
  | nil =>
    have ho:oopAt a []=0:=rfl
    rw [ho]
    have Hr:=HR.out.below hb
    have c2:=Hr.c2
    have hroots:=HF.out.roots
    have HB:=Lib.hid hb
    have HCELL:=Lib.hid (fun j (hj:j<h.roots.length)=>Hr.root (i:=j) hj)
    have HVC:=Lib.hid (fun o ho=>rvalb_any Hr HF.out o ho)
    have HUP:=Lib.hid hup
    clear hb hup hmap Hr
    unfold ptr at HVC
    have hno:(0:Int)=0:=rfl
    go_wp2_with fail
    go_loopw [8] (fun i wq=>∃ k:Nat,k≤h.roots.length∧i = .int .i64 k∧(∀ j,j<k→h.valB (h.roots.getD j 0)=true)∧wq=wr) (fun i _=>h.roots.length-(intOf i).toNat)
    case atStart=>exact⟨0,by omega,rfl,fun j hj=>by omega,rfl⟩
    case round=>
     obtain⟨k,hk,rfl,hall,rfl⟩:=hrel
     have HALL:=Lib.hid hall
     clear hall
     by_cases hlt:k<h.roots.length
     ·have hx:=HCELL.out k hlt
      have hy:h.roots.getD k 0<4294967296:=by
       rw [List.getD_eq_getElem?_getD,List.getElem?_eq_getElem hlt]
       exact HF.out.r32 _ (List.getElem_mem _)
      have HVK:=Lib.hid (HVC.out _ hy)
      cases hv:h.valB (h.roots.getD k 0)
      ·have HBAD:=Lib.hid (show ¬ h.Sound l from fun s=>by
        have:=((h.sound_iff _).1 s).2 (h.roots.getD k 0) (by rw [List.getD_eq_getElem?_getD,List.getElem?_eq_getElem hlt]; exact List.getElem_mem _)
        rw [hv] at this; cases this)
       rw [hv] at HVK
       clear hv
       generalize h.roots.getD k 0=y at *
       generalize h.roots.length=N at *
       go_wp2_with fail
       refine HVK.out.mono ?_
       rintro e w' ⟨rfl,rfl⟩
       go_wp2_with fail
       go_ret
       exact⟨false,rfl,⟨(fun e=>by cases e),fun s=>absurd s HBAD.out⟩,HB.out⟩
      ·have HNA:=Lib.hid (show ∀ j,j<k+1→h.valB (h.roots.getD j 0)=true from fun j hj=>by
        rcases Nat.lt_or_ge j k with h1 | h1
        ·exact HALL.out j h1
        ·obtain rfl:j=k:=by omega
         exact hv)
       rw [hv] at HVK
       clear hv
       have HKL:=Lib.hid hlt
       generalize h.roots.getD k 0=y at *
       go_wp2_with fail
       refine HVK.out.mono ?_
       rintro e w' ⟨rfl,rfl⟩
       go_wp2_with fail
       go_roundw
       case rel=>exact⟨k+1,HKL.out,by go_num,HNA.out,by first | trivial | rfl⟩
       case measure=>simp [intOf]; omega
     ·obtain rfl:k=h.roots.length:=by omega
      have HS2:=Lib.hid (show h.Sound l by
       rw [h.sound_iff,HLL.out,List.append_nil]
       refine⟨HUP.out,fun r hr=>?_⟩
       obtain⟨j,hj,rfl⟩:=List.mem_iff_getElem.1 hr
       have:=HALL.out j hj
       rw [List.getD_eq_getElem?_getD,List.getElem?_eq_getElem hj] at this
       exact this)
      go_wp2_with fail
      go_ret
      exact⟨true,rfl,⟨fun _=>HS2.out,fun _=>rfl⟩,HB.out⟩
  | cons b c=>
    have L:=HL.out
    rw [HLL.out] at L
    have ho:oopAt a (b :: c)=2*posOf a:=rfl
    have hp1:1≤posOf a:=by unfold posOf; omega
    rw [ho]
    have K:=L.ok_at
    have hsz:=K.size
    have hwl:posOf a+3+b.x.size≤h.words.length:=by have:=L.words_len; omega
    have hroom:=HF.out.room
    have hhi:=HF.out.hi
    have hi:h.isB (2*posOf a)=true:=(HL.out.isB_iff _).2 ⟨a,b,c,HLL.out,rfl⟩
    have HHD:=Lib.hid (rheader_any (HR.out.below hb) HF.out (2*posOf a) (by omega) (by rw [half_pos]; exact L.hdAt_at))
    rw [half_pos,L.hd_at] at HHD
    rw [show b.x.val = .agg #[.int .i64 b.x.size,.int .i64 b.x.fmt,.int .i64 b.x.spare,.int .u32 b.x.cls,.int .u32 b.x.ser] from rfl] at HHD
    have HNX:=Lib.hid (fun w' (hb:Below w.heap.size w w')=>show Calls Tryz.prog 150 #[ptr p.g,.int .u32 (2*posOf a:Nat)] w' (Told (.int .u32 (oopAt (a++[b]) c:Nat)) w') from by
     have:=rnext_any (HR.out.below hb) HF.out HL.out.heads (2*posOf a) (by omega) hi
     rw [L.nextO_at] at this
     exact this)
    have HXF:=Lib.hid (fun w' (hb:Below w.heap.size w w') j (hj:j<b.fs.length)=>(HR.out.below hb).fields L hj)
    unfold ptr at HHD HNX
    have hq:(((2*posOf a:Nat):Int)) / 2=(posOf a:Int):=by omega
    have hne:((2*posOf a:Nat):Int)≠0:=by omega
    have hal:a.length<9223372036854775807:=by
     have h1:=wsOf_ge a
     have h2:posOf a=1+(wsOf a).length:=rfl
     omega
    have HK:=Lib.hid K
    have hs3:b.x.spare≤3:=by have:=K.fit.spare; omega
    have h16:b.x.size≤65535:=(may_spare K.may).1
    have HSZ:=Lib.hid hsz
    clear ho hi L hsz
    generalize posOf a=q at *
    generalize 2*q=o at *
    go_wp2_with fail
    refine HHD.out.mono ?_
    rintro e w1 ⟨rfl,hb1⟩
    have hb2:=below_top hb (hb1.alloc hb1.size (.cells #[.int .i64 b.x.size,.int .i64 b.x.fmt,.int .i64 b.x.spare,.int .u32 b.x.cls,.int .u32 b.x.ser] 75))
    have BH2:=Blk.new w1 75 #[.int .i64 b.x.size,.int .i64 b.x.fmt,.int .i64 b.x.spare,.int .u32 b.x.cls,.int .u32 b.x.ser]
    have MM2:=(hmap.below hb1).below ((Below.refl _ _).alloc (Nat.le_refl _) (.cells #[.int .i64 b.x.size,.int .i64 b.x.fmt,.int .i64 b.x.spare,.int .u32 b.x.cls,.int .u32 b.x.ser] 75))
    have hgH:w.heap.size<w1.heap.size:=by have:=hb1.size; have:=hmap.lt; omega
    obtain⟨fs1,fs2,fs3,fs4,fs5⟩:=K.fit
    clear hb hb1 hmap K HHD
    go_upto_region 6 with fail
    generalize w1.alloc (.cells #[.int .i64 b.x.size,.int .i64 b.x.fmt,.int .i64 b.x.spare,.int .u32 b.x.cls,.int .u32 b.x.ser] 75)=W2 at *
    generalize w1.heap.size=gH at *
    go_cut [45] (fun v wx=>v = .bool (h.badHd a b)∧Below W2.heap.size W2 wx)
    case first=>
     have hlk:=MM2.look sersTy fs5
     obtain⟨d0,d1,d2,d3,d4⟩:=BH2.cells5
     have H5:=HR.out.below hb2
     have c3:=H5.c3
     have hbe:=fun n=>below_drewN (Below.refl W2.heap.size W2) n
     have HCL:=Lib.hid (fun n=>risclass_any (H5.below (below_drewN (Below.refl W2.heap.size W2) n)) HF.out b.x.cls fs4)
     have HCN:=Lib.hid (show cntOf a b.x.ser=if b.x.ser∈a.map (·.x.ser) then 1 else 0 from rfl)
     have HC2:=Lib.hid (show ∀ n,Calls Tryz.prog 159 #[.pointer (some ⟨p.g,0,none⟩),.int .u32 (b.x.cls:Nat)] (W2.drewN n) fun e w'=>e = .returned (.bool (h.clsB b.x.cls))∧w'=W2.drewN n from fun n=>(HCL.out n).mono fun e w' ⟨h1,h2⟩=>⟨h1,h2.symm⟩)
     clear HCL H5
     by_cases s3:h.clsB b.x.cls=false
     ·have HB:=Lib.hid (show h.badHd a b=true by simp [HM.badHd,s3])
      rw [s3] at HC2
      clear hlk c3 BH2 MM2 s3
      go_quiet ((go_at_call 159; exact Calls.quiet_of_same (HC2.out _)))
      all_goals go_wp2_with fail
      all_goals go_meet
      all_goals exact⟨by rw [HB.out],hbe _⟩
     have s3':h.clsB b.x.cls=true:=by simpa using s3
     rw [s3'] at HC2
     clear s3
     by_cases s0:b.x.ser=0
     ·have HB:=Lib.hid (show h.badHd a b=true by simp [HM.badHd,s0])
      rw [s0] at d4
      clear hlk c3 BH2 MM2
      go_quiet ((go_at_call 159; exact Calls.quiet_of_same (HC2.out _)))
      all_goals go_wp2_with fail
      all_goals go_meet
      all_goals exact⟨by rw [HB.out],hbe _⟩
     ·have e0:((b.x.ser:Int) == 0)=false:=by simp; omega
      by_cases s1:h.last<b.x.ser
      ·have HB:=Lib.hid (show h.badHd a b=true by simp [HM.badHd,s1])
       have e1:decide (h.last<b.x.ser)=true:=by simp; omega
       clear hlk BH2 MM2 s0 s1
       go_quiet ((go_at_call 159; exact Calls.quiet_of_same (HC2.out _)))
       all_goals go_wp2_with fail
       all_goals go_meet
       all_goals exact⟨by rw [HB.out],hbe _⟩
      ·have e1:decide (h.last<b.x.ser)=false:=by simp; omega
       by_cases s2:b.x.ser∈a.map (·.x.ser)
       ·have HB:=Lib.hid (show h.badHd a b=true by simp only [HM.badHd,s2,decide_true,Bool.or_true,Bool.true_or])
        have hlk5:∀ n,(Instr.lookup 309 (.map (some w.heap.size)) (.int .u32 (b.x.ser:Int)) false).run Tryz.prog (W2.drewN n) = .ok (.int .i64 1) (W2.drewN n):=fun n=>by
         have:=(show MapIs 32 (W2.drewN n) _ _ _ from MM2).look sersTy fs5
         rw [HCN.out,if_pos s2] at this
         exact this
        clear hlk BH2 MM2 s0 s1 s2
        go_quiet ((go_at_call 159; exact Calls.quiet_of_same (HC2.out _)))
        all_goals go_wp2_with fail
        all_goals go_meet
        all_goals exact⟨by rw [HB.out],hbe _⟩
       ·have HB:=Lib.hid (show h.badHd a b=false by
         simp only [HM.badHd,s0,s1,s2,s3',decide_false,Bool.false_or,Bool.not_true])
        have hlk5:∀ n,(Instr.lookup 309 (.map (some w.heap.size)) (.int .u32 (b.x.ser:Int)) false).run Tryz.prog (W2.drewN n) = .ok (.int .i64 0) (W2.drewN n):=fun n=>by
         have:=(show MapIs 32 (W2.drewN n) _ _ _ from MM2).look sersTy fs5
         rw [HCN.out,if_neg s2] at this
         exact this
        clear hlk BH2 MM2 s0 s1 s2
        go_quiet ((go_at_call 159; exact Calls.quiet_of_same (HC2.out _)))
        all_goals go_wp2_with fail
        all_goals go_meet
        all_goals exact⟨by rw [HB.out],hbe _⟩
    case rest=>
     obtain⟨rfl,hb3⟩:=hcut
     have hb4:=below_top hb2 hb3
     have BH3:=BH2.below hb3 BH2.lt
     have MM3:=MM2.below hb3
     obtain⟨d0,d1,d2,d3,d4⟩:=BH3.cells5
     cases hbad:h.badHd a b
     case true=>
      have HBAD:=Lib.hid (show ¬ h.Sound l by rw [HLL.out]; exact HM.badHd_not hbad)
      clear hbad hb2 hb3 BH2 BH3 MM2 MM3
      go_wp2_with fail
      go_ret
      exact⟨false,rfl,⟨(fun e=>by cases e),fun s=>absurd s HBAD.out⟩,hb4⟩
     case false=>
      obtain⟨o1,o2,o3,o4⟩:=HM.badHd_ok hbad
      obtain⟨W4,hpt,MM4,hg4⟩:=MM3.put sersTy (v:=1) fs5 (by omega) hal
      rw [cnt_snoc o3] at MM4
      rw [show ((1:Nat):Int)=1 from rfl] at hpt
      have hb5:=hb4.grown hg4 hb4.size (fun k hk=>by cases hk; omega)
      have BH5:=BH3.same (hg4.block gH BH3.lt (by intro e; injection e with e; omega))
      have HO:=Lib.hid (show 1≤b.x.ser∧b.x.ser≤h.last∧b.x.ser∉a.map (·.x.ser)∧h.clsB b.x.cls=true from⟨o1,o2,o3,o4⟩)
      have HUP:=Lib.hid hup
      clear hbad hb2 hb3 BH2 BH3 MM2 MM3 o1 o2 o3 o4 hup hg4 hb4
      go_wp2_with fail
      clear d0 d1 d2 d3 d4 hpt
      go_loopw [6] (fun i wq=>∃ k:Nat,k≤b.x.size∧i = .int .i64 k∧h.okTo b k∧Below W4.heap.size W4 wq) (fun i _=>b.x.size-(intOf i).toNat)
      case atStart=>exact⟨0,by omega,rfl,(fun j hj=>by omega),Below.refl _ _⟩
      case round=>
       obtain⟨k,hk,rfl,hok,hbq⟩:=hrel
       have HOK:=Lib.hid hok
       have hb6:=below_top hb5 hbq
       have BH6:=BH5.below hbq BH5.lt
       obtain⟨e0,e1,e2,e3,e4⟩:=BH6.cells5
       clear hok
       by_cases hlt:k<b.x.size
       ·have Rq:=HR.out.below hb6
        have q1:=Rq.c1
        have hx:=HXF.out _ hb6 k (by have:=HSZ.out; omega)
        have hy:b.fs.getD k 0<4294967296:=by
         have hkl:k<b.fs.length:=by have:=HSZ.out; omega
         rw [List.getD_eq_getElem?_getD,List.getElem?_eq_getElem hkl]
         exact HK.out.f32 _ (List.getElem_mem _)
        have HBADI:=Lib.hid (fun hb=>HM.not_ob_of_bad (h:=h) HK.out hlt hb)
        have HNEXT:=Lib.hid (fun h1 h2=>HM.okTo_succ (h:=h) (b:=b) (k:=k) HOK.out h1 h2)
        clear HOK
        generalize b.fs.getD k 0=y at *
        have HVC:=Lib.hid (rvalb_any Rq HF.out y hy)
        unfold ptr at HVC
        have HKL:=Lib.hid hlt
        clear Rq
        generalize h.words.length=N at *
        go_upto_region 13 with fail
        go_cut [80] (fun v wx=>v = .bool (h.badF b y)∧Below wr.heap.size wr wx)
        case first=>
         have hbe:=Below.refl wr.heap.size wr
         by_cases h1:b.x.fmt=1
         ·have HB:=Lib.hid (show h.badF b y = !h.valB y by simp [HM.badF,Hd.ptrB,h1])
          rw [h1] at e1
          clear h1
          generalize h.valB y=vb at *
          go_wp2_with fail
          refine HVC.out.mono ?_
          rintro e w' ⟨rfl,rfl⟩
          go_wp2_with fail
          go_meet
          exact⟨by rw [HB.out],hbe⟩
         have f1:((b.x.fmt:Int) == 1)=false:=by simp; omega
         by_cases h4:b.x.fmt=4
         ·have HB:=Lib.hid (show h.badF b y = !h.valB y by simp [HM.badF,Hd.ptrB,h4])
          rw [h4] at e1
          clear h4 h1 f1
          generalize h.valB y=vb at *
          go_wp2_with fail
          refine HVC.out.mono ?_
          rintro e w' ⟨rfl,rfl⟩
          go_wp2_with fail
          go_meet
          exact⟨by rw [HB.out],hbe⟩
         ·have f4:((b.x.fmt:Int) == 4)=false:=by simp; omega
          have HB:=Lib.hid (show h.badF b y=false by simp [HM.badF,Hd.ptrB,h4,h1])
          clear h4 h1
          go_wp2_with fail
          go_meet
          exact⟨by rw [HB.out],hbe⟩
        case rest=>
         obtain⟨rfl,hb7⟩:=hcut
         have hb8:=below_top hbq hb7
         have BH8:=BH6.below hb7 BH6.lt
         clear e0 e1 e2 e3 e4 hx q1 HVC hb6
         obtain⟨e0,e1,e2,e3,e4⟩:=BH8.cells5
         cases hbf:h.badF b y
         case true=>
          have HBAD:=Lib.hid (show ¬ h.Sound l by rw [HLL.out]; exact HM.not_sound_ob (HBADI.out (.inl hbf)))
          clear hbf HBADI hb7 BH6 BH8
          go_wp2_with fail
          go_ret
          exact⟨false,rfl,⟨(fun e=>by cases e),fun s=>absurd s HBAD.out⟩,below_top hb5 hb8⟩
         case false=>
         have HBF:=Lib.hid hbf
         clear hbf BH6 hb7
         go_upto_region 15 with fail
         go_cut [100] (fun v wx=>v = .bool (badS b k y)∧Below wc.heap.size wc wx)
         case first=>
          have hbe:=Below.refl wc.heap.size wc
          by_cases hlast:k+1=b.x.size
          ·have hla:((k:Int) == (b.x.size:Int)-1)=true:=by simp; omega
           have HB:=Lib.hid (show badS b k y=((!decide (y / 2 ^ (32-8*b.x.spare)=0)) && decide (0<b.x.spare)) by unfold badS; rw [decide_eq_true hlast,Bool.true_and])
           have hss:b.x.spare=0∨b.x.spare=1∨b.x.spare=2∨b.x.spare=3:=by omega
           clear hlast
           rcases hss with hs | hs | hs | hs
           ·rw [hs] at e2 HB
            clear hs
            go_wp2_with fail
            go_meet
            exact⟨by rw [HB.out]; simp,hbe⟩
           all_goals
            rw [hs] at e2 HB
            clear hs
            go_wp2_with fail
            all_goals go_meet
            all_goals refine⟨?_,hbe⟩
            all_goals rename_i hx
            all_goals rw [HB.out]
            all_goals congr 1
            all_goals rw [Bool.eq_iff_iff]
            all_goals simp
            all_goals omega
          ·have hla:((k:Int) == (b.x.size:Int)-1)=false:=by simp; omega
           have HB:=Lib.hid (show badS b k y=false by unfold badS; rw [decide_eq_false hlast,Bool.false_and,Bool.false_and])
           clear hlast
           go_wp2_with fail
           go_meet
           exact⟨by rw [HB.out],hbe⟩
         case rest=>
          obtain⟨rfl,hb9⟩:=hcut
          have hb10:=below_top hb8 hb9
          cases hbs:badS b k y
          case true=>
           have HBAD:=Lib.hid (show ¬ h.Sound l by rw [HLL.out]; exact HM.not_sound_ob (HBADI.out (.inr hbs)))
           clear hbs HBADI hb9 BH8
           go_wp2_with fail
           go_ret
           exact⟨false,rfl,⟨(fun e=>by cases e),fun s=>absurd s HBAD.out⟩,below_top hb5 hb10⟩
          case false=>
           have HO2:=Lib.hid (HNEXT.out HBF.out hbs)
           clear hbs hb9 BH8
           go_wp2_with fail
           go_roundw
           case rel=>exact⟨k+1,HKL.out,by go_num,HO2.out,hb10⟩
           case measure=>simp [intOf]; omega
       ·obtain rfl:k=b.x.size:=by omega
        obtain⟨o1,o2,o3,o4⟩:=HO.out
        have HOB:=Lib.hid (HM.okTo_ob HK.out HOK.out)
        have HFIN:=Lib.hid (show SoundMid h w.heap.size (a++[b]) w wr from⟨HUP.out.snoc ⟨o4,HOB.out.1,HOB.out.2,o1,o2⟩ o3,by rw [List.length_append]; exact MM4.below hbq,hb6⟩)
        have HNC:=Lib.hid (HNX.out wr hb6)
        clear o1 o2 o3 o4 HXF HNX hbq hb5 MM4
        go_wp2_with fail
        refine HNC.out.mono ?_
        rintro e wz ⟨rfl,hbz⟩
        have HFZ:=Lib.hid (show SoundMid h w.heap.size (a++[b]) w wz from⟨HFIN.out.1,HFIN.out.2.1.below hbz,below_top hb6 hbz⟩)
        clear HFIN HNC hb6
        go_wp2_with fail
        go_roundg (c.length+1)
        case measure=>rw [HGK.out]; simp
        case rel=>exact⟨a++[b],c,by rw [HLL.out]; simp,rfl,rfl,HFZ.out⟩
end
section
open Go.RowKit
attribute [local go_sem] Oper.semAt_some
theorem RAt.setMark {w:World} {p:HP} {h:HM} (H:RAt w p h) (k:Nat):RAt (w.setCell ⟨p.gs,k,none⟩ (.int .u8 1)) p { h with starts:=h.starts.set k true }:=by
 obtain⟨hb,hw,hs,hr⟩:=H
 have n1:p.g≠p.gs:=fun e=>Row.ne_blk hs hb (by decide) e.symm
 have n2:p.gw≠p.gs:=hw.ne_ hs (by decide)
 have n3:p.gr≠p.gs:=hr.ne_ hs (by decide)
 refine⟨?_,hw.far n2 _,?_,hr.far n3 _⟩
 ·have:=hb.far (p:=⟨p.gs,k,none⟩) n1 (.int .u8 1)
  simpa using this
 ·have:=hs.set k (.int .u8 1)
  simpa [begins] using this
theorem make_u8n (F:Nat) (hF:F≤1048576) (w:World):
 (Instr.makeSlice 22 (.int .i64 (F:Int)) (.int .i64 (F:Int))).run Tryz.prog w = .ok (.slice (some ⟨w.heap.size,0,none⟩) F F) (w.alloc (.cells (zcells (.int .u8 0) F) 5)):=by
 obtain⟨i0,hi0,hz0,hz1,hz2⟩:=info_parts info_u8
 have:=run_make_rowN (P:=Tryz.prog) 22 5 i0 _ Tryz.underlying22 hi0 hz0 .i64 .i64 F F (Nat.le_refl _) (by rw [hz2]; omega) (by omega) w
 have e:madeCells (Value.int .u8 0).cells (F*1)=zcells (.int .u8 0) F:=by
  apply Array.ext
  ·simp [madeCells,zcells,Value.cells]
  ·intro i h1 h2
   simp [madeCells,zcells,Value.cells,Nat.mod_one]
 rw [this,hz1,e]
theorem begins_row (w:World) (F:Nat) (hF:F≤maxLen):Row (w.alloc (.cells (zcells (.int .u8 0) F) 5)) w.heap.size 5 F (begins (List.replicate F false)):=
 ⟨zcells (.int .u8 0) F,Blk.new w _ _,by simp [begins],hF,by simp [zcells],by simp [zcells,begins]⟩
def RLoadP (size:Nat) (ws rs:List Nat) (last:Nat) (w:World) (d:Ending) (w':World):Prop:=
 Below w.heap.size w w'∧((loadE size ws rs last≠0∧d = .returned (.tuple #[.pointer none,.int .i64 (loadE size ws rs last:Nat)]))∨
  (loadE size ws rs last=0∧∃ q:HP,d = .returned (.tuple #[ptr q.g,.int .i64 0])∧RAt w' q (HM.ofWords size ws rs last)∧∀ k,q.has k→w.heap.size≤k))
def RLoadMid (q:HP) (size:Nat) (ws rs:List Nat) (last:Nat) (w:World) (k:Nat) (wr:World):Prop:=
 Below w.heap.size w wr∧∃ l r,Pre ws l r∧k=posOf l∧RAt wr q ⟨size,ws,(false :: msOf l)++List.replicate r.length false,rs,last⟩
set_option maxRecDepth 100000 in
set_option maxHeartbeats 4000000 in
theorem rLoad_any {w:World} (size:Nat) (h1:64≤size) (h2:size≤1048576) (A:Option Addr) (n c:Nat) (ws:List Nat) (hn:n≤9223372036854775807) (hr:Reads w w.heap.size 1 A n (u32s ws)) (h32:∀ x∈ws,x<4294967296)
 (A':Option Addr) (n' c':Nat) (rs:List Nat) (hn':n'≤9223372036854775807) (hr':Reads w w.heap.size 1 A' n' (u32s rs)) (h32':∀ x∈rs,x<4294967296) (last:Nat) (hl:last<4294967296):
 Calls Tryz.prog 66 #[.int .i64 size,.slice A n c,.slice A' n' c',.int .u32 last] w (RLoadP size ws rs last w):=by
 have hlw:ws.length=n:=by have:=hr.1; rw [u32s_len] at this; omega
 have hlr:rs.length=n':=by have:=hr'.1; rw [u32s_len] at this; omega
 have hbr:=Lib.hid (Below.refl w.heap.size w)
 have HLW:=Lib.hid hlw
 have HLR:=Lib.hid hlr
 by_cases hbad:n=0∨size<n∨n'≠64
 ·have HE:=Lib.hid (loadE_bad (size:=size) (ws:=ws) (rs:=rs) (last:=last) (by rw [hlw,hlr]; exact hbad))
  have hfin:RLoadP size ws rs last w (.returned (.tuple #[.pointer none,.int .i64 1])) w:=⟨hbr.out,.inl ⟨by rw [HE.out]; decide,by rw [HE.out]; rfl⟩⟩
  have HFIN:=Lib.hid hfin
  clear hr hr' h32 h32' hlw hlr hfin HE
  by_cases hb0:n=0
  ·have hz:decide ((n:Int)<1)=true:=by simp; omega
   clear hbad hb0
   go_enter Tryz.func66,Tryz.ntmps66
   go_wp2_with fail
   go_ret2
   exact HFIN.out
  ·have hz:decide ((n:Int)<1)=false:=by simp; omega
   by_cases hb1:size<n
   ·have hz1:decide (size<n)=true:=by simpa using hb1
    clear hbad hb0 hb1
    go_enter Tryz.func66,Tryz.ntmps66
    go_wp2_with fail
    go_ret2
    exact HFIN.out
   ·have hz1:decide (size<n)=false:=by simpa using hb1
    have hz2:((n':Int) != 64)=true:=by rw [bne_iff_ne]; omega
    clear hbad hb0 hb1
    go_enter Tryz.func66,Tryz.ntmps66
    go_wp2_with fail
    go_ret2
    exact HFIN.out
 ·have hnn:0<n:=by omega
  have HB':=Lib.hid (show ¬ (ws.length=0∨size<ws.length∨rs.length≠64) by rw [hlw,hlr]; exact hbad)
  obtain rfl:n'=64:=by omega
  obtain⟨ad,rfl,had,hcw⟩:=hr.2 hnn
  obtain⟨ad',rfl,had',-⟩:=hr'.2 (by omega)
  have hz:decide ((n:Int)<1)=false:=by simp; omega
  have hz1:decide (size<n)=false:=by simp; omega
  have hmk:=make_u8n n (by omega)
  have hnsz:n≤size:=by omega
  have HRW:=Lib.hid hr
  have HRR:=Lib.hid hr'
  have HCW:=Lib.hid (show ∀ W',Below w.heap.size w W'→∀ j,j<n→W'.cell? (ad.add j)=some (.int .u32 (ws.getD j 0:Nat)) from fun W' hb j hj=>
   (hb.cell (by rw [block_of_add]; exact had)).trans (hcw j _ (u32s_get (by rw [hlw]; exact hj))))
  have H32:=Lib.hid h32
  have H32':=Lib.hid h32'
  have hX:w.heap.size+1<((w.alloc (.cells (zcells (.int .u8 0) n) 5)).alloc (.cells #[.int .i64 size,.slice none 0 0,.slice none 0 0,.int .u32 last,.slice (some ⟨w.heap.size,0,none⟩) n n] 134)).heap.size:=by simp
  have hb:Below w.heap.size w ((w.alloc (.cells (zcells (.int .u8 0) n) 5)).alloc (.cells #[.int .i64 size,.slice none 0 0,.slice none 0 0,.int .u32 last,.slice (some ⟨w.heap.size,0,none⟩) n n] 134)):=((Below.refl _ _).alloc (Nat.le_refl _) _).alloc (by simp) _
  have BX:Blk ((w.alloc (.cells (zcells (.int .u8 0) n) 5)).alloc (.cells #[.int .i64 size,.slice none 0 0,.slice none 0 0,.int .u32 last,.slice (some ⟨w.heap.size,0,none⟩) n n] 134)) (w.heap.size+1) 134 #[.int .i64 size,.slice none 0 0,.slice none 0 0,.int .u32 last,.slice (some ⟨w.heap.size,0,none⟩) n n]:=by
   have:=Blk.new (w.alloc (.cells (zcells (.int .u8 0) n) 5)) 134 #[.int .i64 size,.slice none 0 0,.slice none 0 0,.int .u32 last,.slice (some ⟨w.heap.size,0,none⟩) n n]
   rw [World.size_alloc] at this
   exact this
  have RS:Row ((w.alloc (.cells (zcells (.int .u8 0) n) 5)).alloc (.cells #[.int .i64 size,.slice none 0 0,.slice none 0 0,.int .u32 last,.slice (some ⟨w.heap.size,0,none⟩) n n] 134)) w.heap.size 5 n (begins (List.replicate n false)):=(begins_row w n (by simp only [maxLen]; omega)).alloc _
  clear hr hr' h32 h32' hlw hlr hcw hbad
  go_enter Tryz.func66,Tryz.ntmps66
  go_upto_region 4 with fail
  generalize hW:(w.alloc (.cells (zcells (.int .u8 0) n) 5)).alloc (.cells #[.int .i64 size,.slice none 0 0,.slice none 0 0,.int .u32 last,.slice (some ⟨w.heap.size,0,none⟩) n n] 134)=W1 at *
  clear hW hmk
  generalize hXX:w.heap.size+1=X at *
  have HXX:=Lib.hid hXX
  clear hXX
  have x1:=BX.cell 1
  have z1:=BX.frozen 1
  obtain⟨i0,hi0,hz0,hz3,hz2⟩:=info_parts info_u32
  have HO:=Lib.hid (show W1.ownsRow (X+1) 32 1 (.slice none 0 0) 0 [] from⟨rfl,.inl ⟨rfl,rfl⟩⟩)
  have HN:=Lib.hid ((HRW.out.below hb).more hb.size)
  have HB1:=Lib.hid hb
  have HRS:=Lib.hid RS
  have HBX:=Lib.hid BX
  have hXX:=HXX.out
  clear hb RS BX
  go_upto_region 5 with (at_builtin; refine wpList_append_any _ rfl (.tmp 39) (.tmp 40) _ rfl (X+1) 32 i0 _ 1 4 Tryz.underlying84 hi0 hz0 hz3 hz2 rfl (by omega) (.slice none 0 0) 0 [] rfl HO.out _ (some ad) n c (u32s ws) rfl HN.out (one_u32s _) (by simp only [maxLen]; omega) (by omega) (by omega) ?_; intro v1 w5 hown5 hgrow hat5; obtain⟨g5,c5,rfl,hrow5,hlen5,hge5⟩:=Row.of_any hown5 (by omega); have k5:=(hgrow.cell_far ⟨X,1,none⟩ hX (by simp [Value.ownBlock])).trans x1; have z5:=(hgrow.frozen_far ⟨X,1,none⟩ hX (by simp [Value.ownBlock])).trans z1; clear hown5)
  rw [List.nil_append] at hrow5
  try simp only [Nat.zero_add]
  have hbel:=below_grown (Nat.le_refl _) HB1.out hgrow (by simp [Value.ownBlock])
  have hB2:=hbel.setCell (p:=⟨X,1,none⟩) (by simp; omega) (.slice (some ⟨g5,0,none⟩) n c5)
  have BX2:=(HBX.out.same (hgrow.block X hX (by simp [Value.ownBlock]))).set_ 1 (.slice (some ⟨g5,0,none⟩) n c5)
  have RW2:=hrow5.far (p:=⟨X,1,none⟩) (by simp; omega) (.slice (some ⟨g5,0,none⟩) n c5)
  have RS2:=(HRS.out.same (hgrow.block w.heap.size HRS.out.lt (by simp [Value.ownBlock]))).far (p:=⟨X,1,none⟩) (by simp; omega) (.slice (some ⟨g5,0,none⟩) n c5)
  generalize hW:w5.setCell ⟨X,1,none⟩ (.slice (some ⟨g5,0,none⟩) n c5)=W2 at *
  clear hW hbel hgrow hrow5 hat5 k5 z5 x1 z1 HO HN
  have BX2:Blk W2 X 134 #[.int .i64 size,.slice (some ⟨g5,0,none⟩) n c5,.slice none 0 0,.int .u32 last,.slice (some ⟨w.heap.size,0,none⟩) n n]:=BX2
  clear HBX HRS HB1 hX
  have hX:X<W2.heap.size:=BX2.lt
  have x1:=BX2.cell 2
  have z1:=BX2.frozen 2
  obtain⟨i1,hj0,hj1,hj3,hj2⟩:=info_parts info_oop
  have HO:=Lib.hid (show W2.ownsRow (X+1) 54 1 (.slice none 0 0) 0 [] from⟨rfl,.inl ⟨rfl,rfl⟩⟩)
  have HN:=Lib.hid ((HRR.out.below hB2).more hB2.size)
  have HB2:=Lib.hid hB2
  have HRS:=Lib.hid RS2
  have HRW2:=Lib.hid RW2
  have HBX:=Lib.hid BX2
  clear hB2 RS2 RW2 BX2
  go_upto_region 6 with (at_builtin; refine wpList_append_any _ rfl (.tmp 48) (.tmp 49) _ rfl (X+1) 54 i1 _ 1 4 Tryz.underlying101 hj0 hj1 hj3 hj2 rfl (by omega) (.slice none 0 0) 0 [] rfl HO.out _ (some ad') 64 c' (u32s rs) rfl HN.out (one_u32s _) (by simp only [maxLen]; omega) (by omega) (by omega) ?_; intro v1 w6 hown5 hgrow hat5; obtain⟨g6,c6,rfl,hrow5,hlen5,hge6⟩:=Row.of_any hown5 (by omega); have k5:=(hgrow.cell_far ⟨X,2,none⟩ hX (by simp [Value.ownBlock])).trans x1; have z5:=(hgrow.frozen_far ⟨X,2,none⟩ hX (by simp [Value.ownBlock])).trans z1; clear hown5)
  rw [List.nil_append] at hrow5
  try simp only [Nat.zero_add]
  have hbel:=below_grown (Nat.le_refl _) HB2.out hgrow (by simp [Value.ownBlock])
  have hB3:=hbel.setCell (p:=⟨X,2,none⟩) (by simp; omega) (.slice (some ⟨g6,0,none⟩) 64 c6)
  have BX3:=(HBX.out.same (hgrow.block X hX (by simp [Value.ownBlock]))).set_ 2 (.slice (some ⟨g6,0,none⟩) 64 c6)
  have RR3:=hrow5.far (p:=⟨X,2,none⟩) (by simp; omega) (.slice (some ⟨g6,0,none⟩) 64 c6)
  have RW3:=(HRW2.out.same (hgrow.block g5 HRW2.out.lt (by simp [Value.ownBlock]))).far (p:=⟨X,2,none⟩) (by simp; omega) (.slice (some ⟨g6,0,none⟩) 64 c6)
  have RS3:=(HRS.out.same (hgrow.block w.heap.size HRS.out.lt (by simp [Value.ownBlock]))).far (p:=⟨X,2,none⟩) (by simp; omega) (.slice (some ⟨g6,0,none⟩) 64 c6)
  have BX3:Blk (w6.setCell ⟨X,2,none⟩ (.slice (some ⟨g6,0,none⟩) 64 c6)) X 134 #[.int .i64 size,.slice (some ⟨g5,0,none⟩) n c5,.slice (some ⟨g6,0,none⟩) 64 c6,.int .u32 last,.slice (some ⟨w.heap.size,0,none⟩) n n]:=BX3
  generalize hW:w6.setCell ⟨X,2,none⟩ (.slice (some ⟨g6,0,none⟩) 64 c6)=W3 at *
  have R3:RAt W3 ⟨X,g5,c5,w.heap.size,n,g6,c6⟩ ⟨size,ws,List.replicate n false,rs,last⟩:=⟨by
   show Blk W3 X 134 #[.int .i64 size,.slice (some ⟨g5,0,none⟩) ws.length c5,.slice (some ⟨g6,0,none⟩) rs.length c6,.int .u32 last,.slice (some ⟨w.heap.size,0,none⟩) (List.replicate n false).length n]
   rw [HLW.out,HLR.out,List.length_replicate]; exact BX3,RW3,RS3,RR3⟩
  have HQN:=Lib.hid (show ∀ k,HP.has ⟨X,g5,c5,w.heap.size,n,g6,c6⟩ k→w.heap.size≤k from by rintro k (rfl | rfl | rfl | rfl) <;> (try simp only []) <;> omega)
  have HPG:=Lib.hid (show (HP.mk X g5 c5 w.heap.size n g6 c6).g=X∧(HP.mk X g5 c5 w.heap.size n g6 c6).gs=w.heap.size from⟨rfl,rfl⟩)
  generalize hQ:(HP.mk X g5 c5 w.heap.size n g6 c6)=q at *
  clear hQ hW hbel hgrow hrow5 hat5 k5 z5 x1 z1 HO HN HRS HRW2 HBX HB2 BX3 RR3 RW3 RS3 hge5 hge6 hX hXX hlen5 hi0 hz0 hz3 hz2 hj0 hj1 hj3 hj2
  have HFAIL:=Lib.hid (show parseW ws=none→loadE size ws rs last=20 from fun e=>loadE_no HB'.out (not_loadOk_of_none e))
  have HBAD:=Lib.hid (show ∀ wz,loadE size ws rs last=20→Below w.heap.size w wz→RLoadP size ws rs last w (.returned (.tuple #[.pointer none,.int .i64 20])) wz from fun wz e hb=>⟨hb,.inl ⟨by rw [e]; decide,by rw [e]; rfl⟩⟩)
  have q0:=HCW.out W3 hB3 0 hnn
  rw [show ad.add 0=ad by unfold Addr.add; simp] at q0
  have hn0:(0:Int)<(n:Int):=by omega
  have HB3:=Lib.hid hB3
  have HR3:=Lib.hid R3
  clear hB3 R3
  by_cases h0:ws.getD 0 0=0
  case neg=>
   have hb:((ws.getD 0 0:Int) != 0)=true:=by rw [bne_iff_ne]; omega
   have HN:=Lib.hid (HFAIL.out (by
    unfold parseW
    split
    ·rename_i hw; simp at h0
    ·rfl))
   generalize ws.getD 0 0=x at *
   clear h0
   go_wp2_with fail
   go_ret2
   exact HBAD.out _ HN.out HB3.out
  obtain⟨r0,hr0⟩ :∃ r0,ws=0 :: r0:=by
   cases hw:ws with
   | nil=>have:=HLW.out; rw [hw] at this; simp at this; omega
   | cons a r=>rw [hw] at h0; simp at h0; exact⟨r,by rw [h0]⟩
  rw [h0] at q0
  have HM0:=Lib.hid (show RLoadMid q size ws rs last w 1 W3 from⟨HB3.out,[],r0,by rw [hr0]; exact Pre.start,rfl,by
   have e:(false :: msOf [])++List.replicate r0.length false=List.replicate n false:=by
    have:=HLW.out
    rw [hr0] at this
    rw [← this]
    simp [msOf,List.replicate_succ]
   rw [e]; exact HR3.out⟩)
  clear hr0 h0 HR3
  go_wp2_with fail
  clear q0
  go_loopw [11] (fun i wr=>∃ k:Nat,i = .int .i64 k∧RLoadMid q size ws rs last w k wr) (fun i _=>n-(intOf i).toNat)
  case atStart=>exact⟨1,rfl,HM0.out⟩
  case round=>
   obtain⟨k,rfl,hbk,l,r,hp,rfl,Rr⟩:=hrel
   have hlen:=hp.len
   rw [HLW.out] at hlen
   by_cases hr0:r=[]
   ·subst hr0
    simp only [List.length_nil,Nat.add_zero] at hlen
    have HD:=Lib.hid hp.done
    have Rr:RAt wr q ⟨size,ws,false :: msOf l,rs,last⟩:=by
     have e:(false :: msOf l)++List.replicate ([]:List Nat).length false=false :: msOf l:=by simp
     rw [e] at Rr; exact Rr
    have hof:(⟨size,ws,false :: msOf l,rs,last⟩ :HM)=HM.ofWords size ws rs last:=by
     unfold HM.ofWords
     rw [HD.out]
     rfl
    have hinv:=parseW_inv H32.out HD.out
    have L3:HM.Laid ⟨size,ws,false :: msOf l,rs,last⟩ l:=⟨hinv.1,rfl,hinv.2⟩
    have F3:HM.Fit ⟨size,ws,false :: msOf l,rs,last⟩:=⟨h1,h2,by show 1≤ws.length; rw [HLW.out]; exact hnn,by show ws.length≤size; rw [HLW.out]; exact hnsz,by
     show (false :: msOf l).length=ws.length
     rw [hinv.1]; simp [msOf_len],HLR.out,H32.out,H32'.out,hl⟩
    have HSN:=Lib.hid (keeps_any Rr F3 L3)
    unfold ptr at HSN
    rw [HPG.out.1] at HSN
    have HOF:=Lib.hid hof
    have HRR3:=Lib.hid Rr
    have HBK:=Lib.hid hbk
    clear hof hinv L3 F3 Rr hbk hp
    rw [← hlen] at *
    go_wp2_with fail
    refine HSN.out.mono ?_
    rintro e w4 ⟨b2,rfl,hiff,hb4⟩
    have HIFF:=Lib.hid hiff
    have HB5:=Lib.hid (below_top HBK.out hb4)
    have HR5:=Lib.hid (HRR3.out.below hb4)
    clear hiff hb4
    cases b2
    ·have HE:=Lib.hid (loadE_no HB'.out (fun ok=>by
      have:=(loadOk_iff HD.out).1 ok
      rw [← HOF.out] at this
      exact absurd (HIFF.out.2 this) (by decide)))
     go_wp2_with fail
     go_ret2
     exact HBAD.out _ HE.out HB5.out
    ·have HE:=Lib.hid (loadE_ok HB'.out ((loadOk_iff HD.out).2 (by rw [← HOF.out]; exact HIFF.out.1 rfl)))
     go_wp2_with fail
     go_ret2
     exact⟨HB5.out,.inr ⟨HE.out,q,by rw [HPG.out.1]; rfl,by rw [← HOF.out]; exact HR5.out,HQN.out⟩⟩
   ·have hpos:0<r.length:=List.length_pos_iff.2 hr0
    by_cases hr3:r.length<3
    ·have HN:=Lib.hid (HFAIL.out (hp.none (parseT_short hr0 hr3)))
     have HBK:=Lib.hid hbk
     clear hp hr0 Rr hbk
     generalize posOf l=K at *
     generalize r.length=m at *
     have hdec:decide (K<n)=true:=by simp; omega
     have hdec1:(n:Int)<(K:Int)+3:=by omega
     have hKn:K<n:=by omega
     have hdec2:decide ((n:Int)<(K:Int)+3)=true:=by simpa using hdec1
     clear hlen hdec1
     go_wp2_with fail
     go_ret2
     exact HBAD.out _ HN.out HBK.out
    ·obtain⟨a,b,c2,r',rfl⟩ :∃ a b c r',r=a :: b :: c :: r':=by
      match r,hr3 with
      | a :: b :: c :: r',_=>exact⟨a,b,c,r',rfl⟩
      | [],h=>simp at h
      | [_],h=>simp at h
      | [_,_],h=>simp at h
     have hm:∀ x∈a :: b :: c2 :: r',x<4294967296:=fun x hx=>H32.out x (by rw [hp.eq]; simp at hx ⊢; right; right; exact hx)
     have ba:=hm a (by simp)
     have bb:=hm b (by simp)
     have bc:=hm c2 (by simp)
     have g0:=hp.get 0
     have g1:=hp.get 1
     have g2:=hp.get 2
     simp only [Nat.add_zero,List.getD_cons_zero,List.getD_cons_succ] at g0 g1 g2
     have HLEN:=Lib.hid (show n=posOf l+(r'.length+3) by simpa using hlen)
     have hw0:=HCW.out wr hbk (posOf l) (by have:=HLEN.out; omega)
     have hw1:=HCW.out wr hbk (posOf l+1) (by have:=HLEN.out; omega)
     have hw2:=HCW.out wr hbk (posOf l+2) (by have:=HLEN.out; omega)
     rw [g0] at hw0
     rw [g1] at hw1
     rw [g2] at hw2
     have hw1:=cell_add hw1 (by omega)
     have hw2:=cell_add hw2 (by omega)
     have HBK:=Lib.hid hbk
     have HPL:=Lib.hid (show posOf l+3≤n by have:=HLEN.out; omega)
     have HP:=Lib.hid hp
     have HRR3:=Lib.hid Rr
     have hadr:ad.block<wr.heap.size:=by have:=hbk.size; omega
     clear g0 g1 g2 hm hlen hr0 hr3 hpos hp Rr
     generalize hKK:posOf l=K at *
     have HKK:=Lib.hid hKK
     have hkn:=HPL.out
     have hdec:decide (K<n)=true:=by simp; omega
     have hdec2:decide ((n:Int)<(K:Int)+3)=false:=by simp; omega
     have hlt0:(K:Int)<(n:Int):=by omega
     have hlt1:(K:Int)+1<(n:Int):=by omega
     have hlt2:(K:Int)+2<(n:Int):=by omega
     have e1:IntKind.i64.wrap ((K:Int)+1)=(K:Int)+1:=IntWalk.i64_in _ (by omega)
     have e2:IntKind.i64.wrap ((K:Int)+2)=(K:Int)+2:=IntWalk.i64_in _ (by omega)
     have p1:0≤(K:Int)+1:=by omega
     have p2:0≤(K:Int)+2:=by omega
     have t1:((K:Int)+1).toNat=K+1:=by omega
     have t2:((K:Int)+2).toNat=K+2:=by omega
     have HU:=Lib.hid (fun w=>runpack_any a b c2 ba bb bc w)
     obtain⟨x,ok,hX⟩ :∃ (x:Hd) (ok:Bool),unpackV a b c2 = .tuple #[.agg #[.int .i64 x.size,.int .i64 x.fmt,.int .i64 x.spare,.int .u32 x.cls,.int .u32 x.ser],.bool ok]∧ok=okhd a b c2∧(ok=true→x=unhd a b c2):=by
      cases hok:okhd a b c2
      ·exact ⟨⟨0,0,0,0,0⟩,false,by unfold unpackV; rw [hok]; rfl,rfl,fun e=>by cases e⟩
      ·exact ⟨unhd a b c2,true,by unfold unpackV; rw [hok]; rfl,rfl,fun _=>rfl⟩
     obtain⟨hX,hokE,hxE⟩:=hX
     rw [hX] at HU
     have HOKE:=Lib.hid hokE
     have HXE:=Lib.hid hxE
     clear hX hokE hxE hKK hkn ba bb bc hbk
     go_upto_region 12 with fail
     have KC:=Lib.hid (show ∀ W',Below wr.heap.size wr W'→W'.cell? (ad.add K)=some (.int .u32 (a:Int))∧W'.cell? ⟨ad.block,ad.off+(K+1),none⟩=some (.int .u32 (b:Int))∧W'.cell? ⟨ad.block,ad.off+(K+2),none⟩=some (.int .u32 (c2:Int)) from fun W' hb=>
      ⟨(hb.cell (by rw [block_of_add]; exact hadr)).trans hw0,(hb.cell (show (⟨ad.block,ad.off+(K+1),none⟩ :Addr).block<wr.heap.size from hadr)).trans hw1,(hb.cell (show (⟨ad.block,ad.off+(K+2),none⟩ :Addr).block<wr.heap.size from hadr)).trans hw2⟩)
     have HUA:=Lib.hid (show Calls Tryz.prog 148 #[.agg #[.int .u32 a,.int .u32 b,.int .u32 c2]] wr.drew fun e w1=>e = .returned (.tuple #[.agg #[.int .i64 x.size,.int .i64 x.fmt,.int .i64 x.spare,.int .u32 x.cls,.int .u32 x.ser],.bool ok])∧Below wr.heap.size wr w1 from
      (HU.out _).mono fun _ _ ⟨h1,h2⟩=>⟨h1,below_top (below_drew (Below.refl _ _)) h2⟩)
     have HUB:=Lib.hid (show Calls Tryz.prog 148 #[.agg #[.int .u32 a,.int .u32 b,.int .u32 c2]] (wr.alloc (.cells #[.int .i64 0,.int .i64 0,.int .i64 0,.int .u32 0,.int .u32 0] 75)).drew fun e w1=>e = .returned (.tuple #[.agg #[.int .i64 x.size,.int .i64 x.fmt,.int .i64 x.spare,.int .u32 x.cls,.int .u32 x.ser],.bool ok])∧Below wr.heap.size wr w1∧Blk w1 wr.heap.size 75 #[.int .i64 0,.int .i64 0,.int .i64 0,.int .u32 0,.int .u32 0] from
      (HU.out _).mono fun _ _ ⟨h1,h2⟩=>⟨h1,below_top (below_drew (below_alloc1 (Below.refl _ _))) h2,((Blk.new wr _ _).drew).below h2 (by simp [World.drew])⟩)
     have hb0:=Below.refl wr.heap.size wr
     go_cut [12,13] (fun v v2 wx=>∃ g,v=ptr g∧v2 = .bool ok∧Below wr.heap.size wr wx∧Blk wx g 75 #[.int .i64 x.size,.int .i64 x.fmt,.int .i64 x.spare,.int .u32 x.cls,.int .u32 x.ser]∧wr.heap.size≤g)
     case first=>
      go_region_held3 (fun w'=>w'.cell? (ad.add K)=some (.int .u32 (a:Int))∧w'.cell? ⟨ad.block,ad.off+(K+1),none⟩=some (.int .u32 (b:Int))∧w'.cell? ⟨ad.block,ad.off+(K+2),none⟩=some (.int .u32 (c2:Int)))
       (first | with_reducible exact KC.out _ hb0 | with_reducible exact KC.out _ (Below.drew hb0) | with_reducible exact KC.out _ (below_alloc1 hb0) | with_reducible exact KC.out _ (Below.drew (below_alloc1 hb0)) | with_reducible exact KC.out _ hk | with_reducible exact KC.out _ (below_alloc1 hk) | with_reducible exact KC.out _ (below_set5 hk (Nat.le_refl _)))
       (first
         | (go_at_call 148; (with_reducible refine HUA.out.mono ?_); rintro e w1 ⟨rfl,hk⟩)
         | (go_at_call 148; (with_reducible refine HUB.out.mono ?_); rintro e w1 ⟨rfl,hk,hB6⟩; obtain⟨g0,g1,g2,g3,g4⟩:=hB6.cells5; have hgz:=hB6.fz; have hgl:=hB6.lt))
      all_goals go_wp2_with fail
      all_goals go_meet
      ·exact ⟨_,rfl,rfl,below_alloc1 hk,Blk.new _ _ _,hk.size⟩
      ·exact ⟨_,rfl,rfl,below_set5 hk (Nat.le_refl _),hB6.setAll5 _ _ _ _ _,Nat.le_refl _⟩
     case rest=>
      obtain⟨gx,rfl,rfl,hbc,BXh,hgx⟩:=hcut
      have HB5:=Lib.hid (below_top HBK.out hbc)
      have HR5:=Lib.hid (HRR3.out.below hbc)
      obtain⟨d0,-,-,-,-⟩:=BXh.cells5
      clear KC HUA HUB hb0 HU hw0 hw1 hw2 hadr
      unfold ptr
      cases hok:ok
      ·have HN:=Lib.hid (HFAIL.out (HP.out.none (parseT_bad (by rw [← HOKE.out,hok]))))
       clear hok hbc BXh
       go_wp2_with fail
       go_ret2
       exact HBAD.out _ HN.out HB5.out
      ·have hx:=HXE.out hok
       have hokE:okhd a b c2=true:=by rw [← HOKE.out,hok]
       have HOK2:=Lib.hid hokE
       clear hok hokE HOKE HXE
       have hfit:x.size<16777216:=by rw [hx]; exact Nat.mod_lt _ (by omega)
       by_cases hsz:x.size≤r'.length
       ·have hz5:decide ((n:Int)<(K:Int)+3+(x.size:Int))=false:=by have:=HLEN.out; simp; omega
        have HP2:=Lib.hid (HP.out.next H32.out HOK2.out (by rw [← hx]; exact hsz))
        have HPOS:=Lib.hid (posOf_snoc l ⟨unhd a b c2,r'.take (unhd a b c2).size⟩)
        have HMS:=Lib.hid (marks_set l ⟨unhd a b c2,r'.take (unhd a b c2).size⟩ (a :: b :: c2 :: r').length (r'.drop (unhd a b c2).size).length (by rw [← hx]; simp; omega))
        rw [HKK.out,← hx] at HMS
        rw [HKK.out,← hx] at HPOS
        rw [← hx] at HP2
        have HTL:=Lib.hid (show (r'.take x.size).length=x.size by simp; omega)
        have HSL:=Lib.hid (show (false :: msOf l++List.replicate (a :: b :: c2 :: r').length false).length=n by
         rw [List.length_append,List.length_cons,msOf_len,List.length_replicate,HLEN.out,← HKK.out]; simp [posOf]; omega)
        have hkl:K<n:=by have:=HLEN.out; omega
        have c4:=HR5.out.c4
        have hkb:K+3+x.size≤n:=by have:=HLEN.out; omega
        have sl:(false :: msOf l++List.replicate (a :: b :: c2 :: r').length false).length=n:=HSL.out
        simp only [sl] at c4
        have m1:=HR5.out.mark (i:=K) (by show K<(false :: msOf l++List.replicate (a :: b :: c2 :: r').length false).length; rw [sl]; exact hkl)
        have z1:=HR5.out.2.2.1.frozen K
        have HS2:=Lib.hid (HR5.out.setMark K)
        have hne:gx≠q.gs:=by
         have:=HRR3.out.lt (k:=q.gs) (.inr (.inr (.inl rfl)))
         omega
        obtain⟨d0',-,-,-,-⟩:=(BXh.far (p:=⟨q.gs,K,none⟩) hne (.int .u8 1)).cells5
        have HB6:=Lib.hid (HB5.out.setCell (p:=⟨q.gs,K,none⟩) (by rw [HPG.out.2]; exact Nat.le_refl _) (.int .u8 1))
        rw [HPG.out.1] at c4
        clear sl hbc BXh HR5 HRR3 HP hx
        dsimp only at m1
        generalize (if (false :: msOf l++List.replicate (a :: b :: c2 :: r').length false).getD K false=true then (1:Int) else 0)=mb at m1
        have hk4:(K:Int)<(n:Int):=by omega
        go_wp2_with fail
        go_roundw
        case rel=>
         refine⟨K+(3+x.size),by go_num,HB6.out,l++[⟨x,r'.take x.size⟩],r'.drop x.size,HP2.out,by rw [HPOS.out,HTL.out]; omega,?_⟩
         have e:=HS2.out
         rw [HMS.out] at e
         exact e
        case measure=>simp [intOf]; omega
       ·have hz5:decide ((n:Int)<(K:Int)+3+(x.size:Int))=true:=by have:=HLEN.out; simp; omega
        have hkb:K+3≤n:=by have:=HLEN.out; omega
        have HN:=Lib.hid (HFAIL.out (HP.out.none (parseT_long (by rw [← hx]; omega))))
        clear hx hbc BXh hsz
        go_wp2_with fail
        go_ret2
        exact HBAD.out _ HN.out HB5.out
end
section
open Go.RowKit
end
section
open Go.RowKit Go.Maps
section
variable {T K:TypeId} {w w':World} {b:Nat} {L:List Nat}
end
def oopsL (l:List Ob):List Nat:=(List.range l.length).map fun j=>2*posOf (l.take j)
theorem oopsL_len (l:List Ob):(oopsL l).length=l.length:=by simp [oopsL]
theorem oopsL_get {l:List Ob} {k:Nat} (hk:k<l.length):(oopsL l)[k]? = some (2*posOf (l.take k)):=by
 rw [List.getElem?_eq_getElem (by rw [oopsL_len]; exact hk)]
 simp [oopsL]
theorem posOf_take_mono {l:List Ob} {j k:Nat} (hjk:j<k) (hk:k≤l.length):posOf (l.take j)<posOf (l.take k):=by
 induction k with
 | zero=>omega
 | succ k ih=>
   have h1:=posOf_take_succ (l:=l) k (by omega)
   rcases Nat.lt_or_ge j k with h | h
   ·have:=ih h (by omega); omega
   ·have:j=k:=by omega
    subst this; exact h1
theorem oopsL_le {h:HM} {l:List Ob} (G:h.Good l):(oopsL l).length≤1048576:=by
 rw [oopsL_len]
 have hroom:=G.fit.room
 have hhi:=G.fit.hi
 rcases Nat.eq_zero_or_pos l.length with h0 | h0
 ·omega
 ·have h1:=posOf_take_lt G (l.length-1) (by omega)
  have h2:∀ k,k≤l.length→k≤posOf (l.take k):=fun k=>by
   induction k with
   | zero=>intro _; omega
   | succ k ih=>intro hk; have:=ih (by omega); have:=posOf_take_succ (l:=l) k (by omega); omega
  have:=h2 (l.length-1) (by omega)
  omega
end
section
open Go.RowKit
abbrev Wk:=List (Nat × Int)
def metO (l:Wk):List Nat:=l.map (·.1)
def putW (l:Wk) (o:Nat) (by_:Int):Wk:=if kindM o=2∧o∉metO l then l++[(o,by_)] else l
def putsW (l:Wk) (os:List Nat) (by_:Int):Wk:=os.foldl (fun l o=>putW l o by_) l
def walkF (nm:Nat→List Nat):Nat→Nat→Wk→Wk
 | 0,_,l=>l
 | f+1,i,l=>if i<l.length then walkF nm f (i+1) (putsW l (nm (l.getD i (0,0)).1) (i:Int)) else l
def walkM (nm:Nat→List Nat) (fr:List Nat):Wk:=walkF nm 2097152 0 (putsW [] fr (-1))
def byOf (l:Wk) (x:Nat):Int:=((l.find? (fun p=>p.1 == x)).map (·.2)).getD 0
theorem metO_len (l:Wk):(metO l).length=l.length:=by simp [metO]
theorem metO_snoc (l:Wk) (o:Nat) (b:Int):metO (l++[(o,b)])=metO l++[o]:=by simp [metO]
theorem putW_new {l:Wk} {o:Nat} {b:Int} (h1:kindM o=2) (h2:o∉metO l):putW l o b=l++[(o,b)]:=by unfold putW; rw [if_pos ⟨h1,h2⟩]
theorem putW_old {l:Wk} {o:Nat} {b:Int} (h:¬ (kindM o=2∧o∉metO l)):putW l o b=l:=by unfold putW; rw [if_neg h]
theorem putW_pre (l:Wk) (o:Nat) (b:Int):l <+: putW l o b:=by
 unfold putW; split
 ·exact List.prefix_append _ _
 ·exact List.prefix_refl _
theorem putsW_nil (l:Wk) (b:Int):putsW l [] b=l:=rfl
theorem putsW_cons (l:Wk) (o:Nat) (os:List Nat) (b:Int):putsW l (o :: os) b=putsW (putW l o b) os b:=rfl
theorem putsW_snoc (l:Wk) (o:Nat) (os:List Nat) (b:Int):putsW l (os++[o]) b=putW (putsW l os b) o b:=by unfold putsW; rw [List.foldl_append]; rfl
theorem putsW_pre (l:Wk) (os:List Nat) (b:Int):l <+: putsW l os b:=by
 induction os generalizing l with
 | nil=>exact List.prefix_refl _
 | cons o os ih=>exact (putW_pre l o b).trans (ih _)
theorem putsW_only (l:Wk) (os:List Nat) (b:Int):putsW l (os.filter (fun o=>decide (kindM o=2))) b=putsW l os b:=by
 induction os generalizing l with
 | nil=>rfl
 | cons o os ih=>
   rw [List.filter_cons]
   by_cases h:kindM o=2
   ·rw [if_pos (by simpa using h),putsW_cons,putsW_cons,ih]
   ·rw [if_neg (by simpa using h),putsW_cons,ih,putW_old (fun k=>h k.1)]
theorem putW_nodup {l:Wk} (h:(metO l).Nodup) (o:Nat) (b:Int):(metO (putW l o b)).Nodup:=by
 unfold putW; split
 ·rename_i hc
  rw [metO_snoc,List.nodup_append]
  exact⟨h,by simp,fun a ha c hc'=>by rintro rfl; simp at hc'; subst hc'; exact hc.2 ha⟩
 ·exact h
theorem putsW_nodup {l:Wk} (h:(metO l).Nodup) (os:List Nat) (b:Int):(metO (putsW l os b)).Nodup:=by
 induction os generalizing l with
 | nil=>exact h
 | cons o os ih=>exact ih (putW_nodup h o b)
theorem putW_mem {l:Wk} {o x:Nat} {b:Int}:x∈metO (putW l o b)↔x∈metO l∨(x=o∧kindM o=2):=by
 unfold putW; split
 ·rename_i hc
  rw [metO_snoc,List.mem_append,List.mem_singleton]
  exact⟨fun h=>h.imp_right fun e=>⟨e,hc.1⟩,fun h=>h.imp_right fun e=>e.1⟩
 ·rename_i hc
  refine⟨.inl,fun h=>h.elim id fun e=>?_⟩
  obtain⟨rfl,hk⟩:=e
  exact Classical.byContradiction fun hn=>hc ⟨hk,hn⟩
theorem putsW_mem {l:Wk} {os:List Nat} {x:Nat} {b:Int}:x∈metO (putsW l os b)↔x∈metO l∨(x∈os∧kindM x=2):=by
 induction os generalizing l with
 | nil=>simp [putsW_nil]
 | cons o os ih=>
   rw [putsW_cons,ih,putW_mem,List.mem_cons]
   constructor
   ·rintro ((h | ⟨rfl,h⟩) | ⟨h1,h2⟩)
    ·exact .inl h
    ·exact .inr ⟨.inl rfl,h⟩
    ·exact .inr ⟨.inr h1,h2⟩
   ·rintro (h | ⟨rfl | h1,h2⟩)
    ·exact .inl (.inl h)
    ·exact .inl (.inr ⟨rfl,h2⟩)
    ·exact .inr ⟨h1,h2⟩
theorem byOf_snoc {l:Wk} {o:Nat} (b:Int) (hn:o∉metO l) (x:Nat):byOf (l++[(o,b)]) x=if x=o then b else byOf l x:=by
 unfold byOf
 rw [List.find?_append]
 by_cases hx:x=o
 ·subst hx
  have h0:l.find? (fun p=>p.1 == x)=none:=by
   rw [List.find?_eq_none]
   intro p hp he
   exact hn (List.mem_map.2 ⟨p,hp,by simpa using he⟩)
  rw [if_pos rfl,h0]
  simp
 ·rw [if_neg hx]
  have h1:([(o,b)]:Wk).find? (fun p=>p.1 == x)=none:=by simp; omega
  rw [h1,Option.or_none]
theorem len_of_sub:∀ (a b:List Nat),a.Nodup→(∀ x∈a,x∈b)→a.length≤b.length
 | [],_,_,_=>Nat.zero_le _
 | x :: a,b,hd,hs=>by
   rw [List.nodup_cons] at hd
   have hx:=hs x (by simp)
   have:=len_of_sub a (b.erase x) hd.2 (fun y hy=>(List.mem_erase_of_ne (show y≠x by rintro rfl; exact hd.1 hy)).2 (hs y (by simp [hy])))
   rw [List.length_erase_of_mem hx] at this
   have:=List.length_pos_of_mem hx
   simp
   omega
section
variable (nm:Nat→List Nat)
structure GoW (fr:List Nat) (i:Nat) (l:Wk):Prop where
 nodup:(metO l).Nodup
 le:i≤l.length
 rest:walkM nm fr=walkF nm (2097152-i) i l
theorem GoW.start (fr:List Nat):GoW nm fr 0 (putsW [] fr (-1)):=⟨putsW_nodup (by simp [metO]) _ _,Nat.zero_le _,rfl⟩
variable {nm} {fr:List Nat} {i:Nat} {l:Wk}
theorem GoW.next (G:GoW nm fr i l) (hi:i<l.length) (hl:l.length≤1048576):GoW nm fr (i+1) (putsW l (nm (l.getD i (0,0)).1) (i:Int)):=by
 refine⟨putsW_nodup G.nodup _ _,by have:=(putsW_pre l (nm (l.getD i (0,0)).1) (i:Int)).length_le; omega,?_⟩
 rw [G.rest,show 2097152-i=(2097152-(i+1))+1 by omega]
 conv=>lhs; unfold walkF
 rw [if_pos hi]
theorem GoW.done (G:GoW nm fr i l) (hi:¬ i<l.length) (hl:l.length≤1048576):walkM nm fr=l:=by
 have:=G.le
 rw [G.rest,show 2097152-i=(2097152-(i+1))+1 by omega]
 unfold walkF
 rw [if_neg hi]
end
theorem walkF_all {P:Nat→Prop} (nm:Nat→List Nat) (hn:∀ o,P o→∀ x∈nm o,kindM x=2→P x):∀ (f i:Nat) (l:Wk),(∀ o∈metO l,P o)→∀ o∈metO (walkF nm f i l),P o
 | 0,_,l,h=>h
 | f + 1,i,l,h=>by
   unfold walkF
   split
   ·rename_i hi
    refine walkF_all nm hn f (i+1) _ (fun o ho=>?_)
    rcases putsW_mem.1 ho with ho | ⟨h1,h2⟩
    ·exact h o ho
    ·refine hn _ (h _ ?_) o h1 h2
     rw [List.getD_eq_getElem?_getD,List.getElem?_eq_getElem hi]
     exact List.mem_map.2 ⟨l[i],List.getElem_mem hi,rfl⟩
   ·exact h
theorem walkM_all {P:Nat→Prop} {nm:Nat→List Nat} {fr:List Nat} (hf:∀ x∈fr,kindM x=2→P x) (hn:∀ o,P o→∀ x∈nm o,kindM x=2→P x):∀ o∈metO (walkM nm fr),P o:=
 walkF_all nm hn _ _ _ (fun o ho=>by
  rcases putsW_mem.1 ho with ho | ⟨h1,h2⟩
  ·simp [metO] at ho
  ·exact hf o h1 h2)
theorem walkF_nodup (nm:Nat→List Nat):∀ (f i:Nat) (l:Wk),(metO l).Nodup→(metO (walkF nm f i l)).Nodup
 | 0,_,l,h=>h
 | f+1,i,l,h=>by
   unfold walkF
   split
   ·exact walkF_nodup nm f (i+1) _ (putsW_nodup h _ _)
   ·exact h
theorem walkM_nodup (nm:Nat→List Nat) (fr:List Nat):(metO (walkM nm fr)).Nodup:=walkF_nodup nm _ _ _ (putsW_nodup (by simp [metO]) _ _)
theorem walkF_pre (nm:Nat→List Nat):∀ (f i:Nat) (l:Wk),l <+: walkF nm f i l
 | 0,_,l=>List.prefix_refl _
 | f+1,i,l=>by
   unfold walkF
   split
   ·exact (putsW_pre l _ _).trans (walkF_pre nm f (i+1) _)
   ·exact List.prefix_refl _
def heldM (h:HM) (o:Nat):List Nat:=(h.hd (o / 2)).cls :: (if (h.hd (o / 2)).fmt=1 then h.fields o else [])
def namesM (h:HM) (o:Nat):List Nat:=(h.hd (o / 2)).cls :: (if (h.hd (o / 2)).ptrB=true then h.fields o else [])
section
variable {h:HM} {l:List Ob}
theorem isB_mem (G:h.Good l) {o:Nat} (hi:h.isB o=true):o∈oopsL l:=by
 obtain⟨a,b,c,rfl,rfl⟩:=(G.laid.isB_iff o).1 hi
 have hk:a.length<(a++b :: c).length:=by simp
 have:=oopsL_get hk
 rw [List.take_left] at this
 exact List.mem_of_getElem? this
theorem isB_kind {o:Nat} (hi:h.isB o=true):kindM o=2:=by
 unfold HM.isB at hi
 simp only [Bool.and_eq_true] at hi
 unfold objB at hi
 simpa using hi.1
theorem names_isB (G:h.Good l) {o:Nat} (hi:h.isB o=true) {x:Nat} (hx:x∈namesM h o) (hk:kindM x=2):h.isB x=true:=by
 obtain⟨a,b,c,rfl,rfl⟩:=(G.laid.isB_iff o).1 hi
 unfold namesM at hx
 rw [half_pos,G.laid.hd_at,G.laid.fields_at] at hx
 have ho:objB x=true:=by unfold objB; simpa using hk
 rcases List.mem_cons.1 hx with rfl | hx
 ·have:=G.sound.cls b (by simp)
  unfold HM.clsB at this
  rw [Bool.or_eq_true] at this
  rcases this with h0 | h1
  ·have h0:b.x.cls=0:=by simpa using h0
   rw [h0] at hk
   simp [kindM] at hk
  ·exact h1
 ·split at hx
  ·rename_i hp
   have:=G.sound.flds b (by simp) hp x hx
   unfold HM.valB at this
   rw [ho] at this
   simpa using this
  ·cases hx
theorem held_names {o x:Nat} (hx:x∈heldM h o):x∈namesM h o:=by
 unfold heldM at hx
 unfold namesM
 rcases List.mem_cons.1 hx with h1 | h1
 ·exact List.mem_cons.2 (.inl h1)
 ·split at h1
  ·rename_i h2
   refine List.mem_cons.2 (.inr ?_)
   rw [if_pos (by unfold Hd.ptrB; simp [h2])]
   exact h1
  ·cases h1
theorem walk_isB (G:h.Good l) {fr:List Nat} (hf:∀ x∈fr,h.valB x=true):∀ o∈metO (walkM (heldM h) fr),h.isB o=true:=
 walkM_all (P:=fun o=>h.isB o=true) (fun x hx hk=>by
  have:=hf x hx
  unfold HM.valB objB at this
  simpa [hk] using this) (fun o ho x hx hk=>names_isB G ho (held_names hx) hk)
theorem wk_len (G:h.Good l) {w:Wk} (hd:(metO w).Nodup) (hi:∀ o∈metO w,h.isB o=true):w.length≤1048576:=by
 have:=len_of_sub (metO w) (oopsL l) hd (fun o ho=>isB_mem G (hi o ho))
 have:=oopsL_le G
 rw [metO_len] at *
 omega
def liveO (h:HM) (l:List Ob):List Nat:=(oopsL l).filter (fun o=>decide (o∈metO (walkM (heldM h) h.roots)))
theorem oopsL_lt (l:List Ob):(oopsL l).Pairwise (· < ·):=by
 unfold oopsL
 rw [List.pairwise_map]
 refine List.Pairwise.imp_of_mem ?_ (List.pairwise_lt_range (n:=l.length))
 intro a b ha hb hlt
 have:=posOf_take_mono (l:=l) (j:=a) (k:=b) hlt (by have:=List.mem_range.1 hb; omega)
 omega
theorem liveO_lt (h:HM) (l:List Ob):(liveO h l).Pairwise (· < ·):=(oopsL_lt l).filter _
theorem mem_liveO (G:h.Good l) {o:Nat}:o∈liveO h l↔o∈metO (walkM (heldM h) h.roots):=by
 unfold liveO
 rw [List.mem_filter]
 refine⟨fun hh=>by simpa using hh.2,fun hh=>⟨isB_mem G (walk_isB G G.sound.roots o hh),by simpa using hh⟩⟩
theorem lt_unique:∀ (a b:List Nat),a.Pairwise (· < ·)→b.Pairwise (· < ·)→(∀ x,x∈a↔x∈b)→a=b
 | [],[],_,_,_=>rfl
 | [],y :: b,_,_,h=>by have:=(h y).2 (by simp); cases this
 | x :: a,[],_,_,h=>by have:=(h x).1 (by simp); cases this
 | x :: a,y :: b,ha,hb,h=>by
   rw [List.pairwise_cons] at ha hb
   have hxy:x=y:=by
    rcases List.mem_cons.1 ((h x).1 (by simp)) with h1 | h1
    ·exact h1
    ·rcases List.mem_cons.1 ((h y).2 (by simp)) with h2 | h2
     ·exact h2.symm
     ·have:=hb.1 x h1; have:=ha.1 y h2; omega
   subst hxy
   rw [lt_unique a b ha.2 hb.2 (fun z=>?_)]
   have hz:=h z
   rw [List.mem_cons,List.mem_cons] at hz
   constructor
   ·intro h1
    rcases hz.1 (.inr h1) with rfl | h2
    ·have:=ha.1 z h1; omega
    ·exact h2
   ·intro h1
    rcases hz.2 (.inr h1) with rfl | h2
    ·have:=hb.1 z h1; omega
    ·exact h2
theorem sorted_live (G:h.Good l) {s:List Nat} (hp:s.Perm (metO (walkM (heldM h) h.roots))) (hs:s.Pairwise (· ≤ ·)):s=liveO h l:=by
 refine lt_unique s (liveO h l) ?_ (liveO_lt h l) (fun x=>by rw [hp.mem_iff,mem_liveO G])
 have hd:s.Nodup:=hp.nodup_iff.2 (walkM_nodup _ _)
 rw [List.nodup_iff_pairwise_ne] at hd
 exact (hs.and hd).imp (fun h=>by omega)
end
end
section
open Go.RowKit
attribute [local go_sem] Oper.semAt_some
structure Frb (rg:Nat) (w w':World):Prop where
 os:w'.os=w.os
 tape:w'.tape=w.tape
 output:w'.output=w.output
 size:w.heap.size≤w'.heap.size
 same:∀ k,k<w.heap.size→k≠rg→w'.heap[k]? = w.heap[k]?
theorem Frb.refl (rg:Nat) (w:World):Frb rg w w:=⟨rfl,rfl,rfl,Nat.le_refl _,fun _ _ _=>rfl⟩
theorem Frb.trans {rg:Nat} {w w' w'':World} (h:Frb rg w w') (k:Frb rg w' w''):Frb rg w w'':=
 ⟨k.os.trans h.os,k.tape.trans h.tape,k.output.trans h.output,Nat.le_trans h.size k.size,fun i hi hne=>(k.same i (Nat.lt_of_lt_of_le hi h.size) hne).trans (h.same i hi hne)⟩
theorem Frb.set (rg i:Nat) (w:World) (v:Value):Frb rg w (w.setCell ⟨rg,i,none⟩ v):=
 ⟨rfl,rfl,rfl,by simp [World.setCell],fun k _ hne=>Below.heap_setCell w ⟨rg,i,none⟩ v k hne⟩
theorem Frb.below {rg B:Nat} {w w':World} (h:Frb rg w w') (hB:B≤rg) (hw:B≤w.heap.size):Below B w w':=⟨h.os,h.tape,h.output,h.size,fun k hk=>h.same k (by omega) (by omega)⟩
theorem Frb.setCells (rg:Nat):∀ (vs:List Value) (o:Nat) (w:World),Frb rg w (w.setCells rg o vs)
 | [],_,w=>Frb.refl _ _
 | v :: vs,o,w=>(Frb.set rg o w v).trans (Frb.setCells rg vs (o+1) _)
theorem Row.setCells {g c:Nat} {e:TypeId} {xs:List Value}:∀ (vs:List Value) (o:Nat) (w:World),Row w g e c xs→xs.length≤o→Row (w.setCells g o vs) g e c xs
 | [],_,w,h,_=>h
 | v :: vs,o,w,h,ho=>Row.setCells vs (o+1) _ (by have:=h.set o v; rwa [List.set_eq_of_length_le ho] at this) (by omega)
theorem Row.short {w:World} {g c:Nat} {e:TypeId} {xs:List Value} (h:Row w g e c xs) (i:Nat):Row w g e c (xs.take i):=by
 obtain⟨cur,hb,hl,hm,hc,hx⟩:=h
 refine⟨cur,hb,by rw [List.length_take]; omega,hm,hc,?_⟩
 rw [← hx,List.take_take,List.length_take]
 congr 1
 have:cur.toList.length=c:=by simpa using hc
 have:=congrArg List.length hx
 simp only [List.length_take] at this ⊢
 omega
theorem Row.len_le {w:World} {g c:Nat} {e:TypeId} {xs:List Value} (h:Row w g e c xs):xs.length≤c:=by obtain⟨_,_,h1,_⟩:=h; exact h1
def k2 (o:Nat):Bool:=decide (kindM o=2)
theorem cobject_any (o:Nat) (ho:o<4294967296) (w:World):
 Calls Tryz.prog 171 #[.int .u32 o] w fun e w'=>e = .returned (.bool (k2 o))∧w=w':=by
 have HK:=Lib.hid (kind_any o ho w)
 have HD:=Lib.hid (show ((kindM o:Int) == 2)=k2 o by unfold k2; rw [Bool.eq_iff_iff]; simp; omega)
 generalize kindM o=kk at *
 generalize k2 o=b at *
 go_enter Tryz.func171,Tryz.ntmps171
 go_wp2_with fail
 refine HK.out.mono ?_
 rintro e w' ⟨rfl,rfl⟩
 go_wp2_with fail
 go_ret
 exact⟨by rw [← HD.out]; rfl,rfl⟩
theorem onlyF_any (o:Nat) (ho:o<4294967296) (w:World):
 Calls Tryz.prog 263 #[.int .u32 o] w fun e w'=>e = .returned (.bool (!k2 o))∧w=w':=by
 have HK:=Lib.hid (cobject_any o ho w)
 generalize k2 o=b at *
 go_enter Tryz.func263,Tryz.ntmps263
 go_wp2_with fail
 refine HK.out.mono ?_
 rintro e w' ⟨rfl,rfl⟩
 go_wp2_with fail
 go_ret
 exact⟨rfl,rfl⟩
def onlyFn:Value:=.func (.func 263) #[] #[]
def IdxOP (xs:List Nat) (w:World) (e:Ending) (w':World):Prop:=
 w=w'∧((e = .returned (.int .i64 (-1))∧∀ x∈xs,k2 x=true)∨∃ j,e = .returned (.int .i64 (j:Nat))∧j<xs.length∧k2 (xs.getD j 0)=false∧∀ i,i<j→k2 (xs.getD i 0)=true)
theorem getD_u32 {xs:List Nat} (h:∀ x∈xs,x<4294967296) (k:Nat):xs.getD k 0<4294967296:=by
 rw [List.getD_eq_getElem?_getD]
 cases hh:xs[k]? with
 | none=>simp
 | some v=>simp; exact h v (List.mem_of_getElem? hh)
set_option maxHeartbeats 1000000 in
theorem indexO_any {w:World} (A:Option Addr) (n c B:Nat) (xs:List Nat) (hn:n≤9223372036854775807) (hr:Reads w B 1 A n (u32s xs)) (h32:∀ x∈xs,x<4294967296):
 Calls Tryz.prog 265 #[.slice A n c,onlyFn] w (IdxOP xs w):=by
 have hl:xs.length=n:=by have:=hr.1; rw [u32s_len] at this; omega
 have HL:=Lib.hid hl; have HR:=Lib.hid hr; have HX:=Lib.hid h32
 clear hl hr h32
 unfold onlyFn
 go_enter Tryz.func265,Tryz.ntmps265
 go_wp2_with fail
 go_loop [8] (fun i=>∃ k:Nat,k≤n∧i = .int .i64 k∧∀ i,i<k→k2 (xs.getD i 0)=true) (fun i=>n-(intOf i).toNat)
 case atStart=>exact⟨0,by omega,rfl,fun i hi=>by omega⟩
 case round=>
  obtain⟨k,hk,rfl,hno⟩:=hrel
  have HNO:=Lib.hid hno; clear hno
  by_cases hlt:k<n
  ·obtain⟨ad,u0,rfl,_,hx,hcell⟩:=HR.out.at_ hlt
   rw [u32s_get (by rw [HL.out]; exact hlt)] at hx
   injection hx with hx
   subst hx
   have HC:=Lib.hid (fun w=>onlyF_any (xs.getD k 0) (getD_u32 HX.out k) w)
   cases hv:k2 (xs.getD k 0)
   ·have HA:=Lib.hid hv
    rw [hv] at HC
    clear hv
    generalize hy:xs.getD k 0=y at *
    have HY:=Lib.hid hy
    clear hy
    go_wp2_with fail
    refine (HC.out _).mono ?_
    rintro e w' ⟨rfl,rfl⟩
    go_wp2_with fail
    go_ret
    exact⟨rfl,.inr ⟨k,rfl,by rw [HL.out]; exact hlt,by rw [HY.out]; exact HA.out,HNO.out⟩⟩
   ·have HA:=Lib.hid (show ∀ i,i<k+1→k2 (xs.getD i 0)=true from fun i hi=>by
     rcases Nat.lt_or_ge i k with h | h
     ·exact HNO.out i h
     ·obtain rfl:i=k:=by omega
      exact hv)
    rw [hv] at HC
    clear hv
    generalize xs.getD k 0=y at hcell HC
    go_wp2_with fail
    refine (HC.out _).mono ?_
    rintro e w' ⟨rfl,rfl⟩
    go_wp2_with fail
    go_round
    case rel=>exact⟨k+1,by omega,by go_num,HA.out⟩
    case measure=>simp [intOf]; omega
  ·obtain rfl:k=n:=by omega
   go_wp2_with fail
   go_ret
   refine⟨rfl,.inl ⟨rfl,fun x hx=>?_⟩⟩
   obtain⟨i,hi,rfl⟩:=List.getElem_of_mem hx
   have:=HNO.out i (by rw [← HL.out]; exact hi)
   rw [List.getD_eq_getElem?_getD,List.getElem?_eq_getElem hi] at this
   exact this
def OnlyP (g c:Nat) (xs:List Nat) (w:World) (e:Ending) (w':World):Prop:=
 e = .returned (.slice (some ⟨g,0,none⟩) (xs.filter k2).length c)∧Row w' g 54 c (u32s (xs.filter k2))∧Frb g w w'
structure DelS (xs ys:List Nat) (i j:Nat):Prop where
 len:ys.length=xs.length
 fst:ys.take i=(xs.take j).filter k2
 rest:ys.drop j=xs.drop j
 ij:i<j
 jl:j≤xs.length
theorem DelS.il {xs ys:List Nat} {i j:Nat} (D:DelS xs ys i j):((xs.take j).filter k2).length=i:=by
 have:=D.ij; have:=D.jl; have:=D.len
 rw [← D.fst,List.length_take]; omega
theorem DelS.start {xs:List Nat} {j:Nat} (hj:j<xs.length) (h0:k2 (xs.getD j 0)=false) (h:∀ i,i<j→k2 (xs.getD i 0)=true):DelS xs xs j (j+1):=by
 refine⟨rfl,?_,rfl,by omega,by omega⟩
 rw [List.take_add_one,List.getElem?_eq_getElem hj,List.filter_append]
 have e1:(xs.take j).filter k2=xs.take j:=by
  rw [List.filter_eq_self]
  intro x hx
  obtain⟨i,hi,rfl⟩:=List.getElem_of_mem hx
  rw [List.length_take] at hi
  have:=h i (by omega)
  rw [List.getD_eq_getElem?_getD,List.getElem?_eq_getElem (by omega)] at this
  simpa using this
 rw [List.getD_eq_getElem?_getD,List.getElem?_eq_getElem hj] at h0
 have h0:k2 xs[j]=false:=by simpa using h0
 rw [e1]
 simp [h0]
theorem DelS.get {xs ys:List Nat} {i j:Nat} (D:DelS xs ys i j) (hj:j<xs.length):ys.getD j 0=xs.getD j 0:=by
 have h:(ys.drop j).getD 0 0=(xs.drop j).getD 0 0:=by rw [D.rest]
 simpa [List.getD_eq_getElem?_getD] using h
theorem DelS.skip {xs ys:List Nat} {i j:Nat} (D:DelS xs ys i j) (hj:j<xs.length) (h:k2 (xs.getD j 0)=false):DelS xs ys i (j+1):=by
 have hij:=D.ij
 refine⟨D.len,?_,?_,by omega,by omega⟩
 ·rw [D.fst,List.take_add_one,List.getElem?_eq_getElem hj,List.filter_append]
  rw [List.getD_eq_getElem?_getD,List.getElem?_eq_getElem hj] at h
  have h:k2 xs[j]=false:=by simpa using h
  simp [h]
 ·rw [← List.drop_drop,D.rest,List.drop_drop]
theorem DelS.keep {xs ys:List Nat} {i j:Nat} (D:DelS xs ys i j) (hj:j<xs.length) (h:k2 (xs.getD j 0)=true):DelS xs (ys.set i (xs.getD j 0)) (i+1) (j+1):=by
 have hij:=D.ij
 have hl:=D.len
 refine⟨by rw [List.length_set]; exact hl,?_,?_,by omega,by omega⟩
 ·rw [List.take_add_one,List.getElem?_set_self (by omega),List.take_set_of_le (Nat.le_refl _),D.fst]
  rw [List.take_add_one,List.getElem?_eq_getElem hj,List.filter_append]
  rw [List.getD_eq_getElem?_getD,List.getElem?_eq_getElem hj] at h ⊢
  have h:k2 xs[j]=true:=by simpa using h
  simp [h]
 ·rw [List.drop_set,if_pos (by omega),← List.drop_drop,D.rest,List.drop_drop]
theorem u32s_take (xs:List Nat) (i:Nat):(u32s xs).take i=u32s (xs.take i):=by unfold u32s; rw [List.map_take]
theorem u32s_set (xs:List Nat) (i v:Nat):u32s (xs.set i v)=(u32s xs).set i (.int .u32 (v:Nat)):=by unfold u32s; rw [List.map_set]
set_option maxRecDepth 100000 in
set_option maxHeartbeats 2000000 in
theorem deleteO_any {w:World} (g c:Nat) (xs:List Nat) (hR:Row w g 54 c (u32s xs)) (hn:xs.length≤9223372036854775807) (h32:∀ x∈xs,x<4294967296):
 Calls Tryz.prog 262 #[.slice (some ⟨g,0,none⟩) xs.length c,onlyFn] w (OnlyP g c xs w):=by
 have hrr:=hR.reads (B:=w.heap.size) hR.lt
 rw [u32s_len] at hrr
 have HI:=Lib.hid (indexO_any (c:=c) _ xs.length w.heap.size xs hn hrr h32)
 have HR:=Lib.hid hR
 have HX:=Lib.hid h32
 have hlc:=hR.len_le
 rw [u32s_len] at hlc
 clear hR hrr h32
 unfold onlyFn at HI ⊢
 go_enter Tryz.func262,Tryz.ntmps262
 go_wp2_with fail
 refine HI.out.mono ?_
 rintro e w' ⟨rfl,⟨rfl,hall⟩ | ⟨j,rfl,hj,hj0,hji⟩⟩
 ·have HF:=Lib.hid (show xs.filter k2=xs from List.filter_eq_self.2 hall)
  clear hall HI
  go_wp2_with fail
  go_ret
  exact⟨by rw [HF.out]; rfl,by rw [HF.out]; exact HR.out,Frb.refl _ _⟩
 ·have HD0:=Lib.hid (DelS.start hj hj0 hji)
  have hm1:((j:Int) == -1)=false:=by first | (simp; done) | (simp; omega)
  have hjn:j<xs.length:=hj
  clear hj0 hji HI hj
  go_wp2_with fail
  go_loopw [5,6] (fun vi vj wr=>∃ (i j':Nat) (ys:List Nat),vi = .int .i64 i∧vj = .int .i64 j'∧DelS xs ys i j'∧Row wr g 54 c (u32s ys)∧Frb g w wr) (fun _ vj _=>xs.length-(intOf vj).toNat)
  case atStart=>exact⟨j,j+1,xs,rfl,by go_num,HD0.out,HR.out,Frb.refl _ _⟩
  case round=>
   clear HD0 HR hm1 hjn
   obtain⟨i,j',ys,rfl,rfl,hd,hrow,hfr⟩:=hrel
   have HD:=Lib.hid hd
   have HW:=Lib.hid hrow
   have HFR:=Lib.hid hfr
   have hij:=hd.ij
   have hjl:=hd.jl
   have hyl:=hd.len
   have hyl2:=Lib.hid hyl
   clear hd hrow hfr hyl
   by_cases hlt:j'<xs.length
   ·have hc1:=HW.out.cell (u32s_get (l:=ys) (i:=j') (by rw [hyl2.out]; exact hlt))
    rw [HD.out.get hlt] at hc1
    have hfz:=HW.out.frozen i
    have hold:=HW.out.cell (u32s_get (l:=ys) (i:=i) (by rw [hyl2.out]; omega))
    have HC:=Lib.hid (fun w=>onlyF_any (xs.getD j' 0) (getD_u32 HX.out j') w)
    cases hv:k2 (xs.getD j' 0)
    ·have HN:=Lib.hid (HD.out.skip hlt hv)
     rw [hv] at HC
     clear hv
     generalize xs.getD j' 0=y at hc1 HC
     go_wp2_with fail
     refine (HC.out _).mono ?_
     rintro e w' ⟨rfl,rfl⟩
     go_wp2_with fail
     go_roundw
     case rel=>exact⟨i,j'+1,ys,rfl,by go_num,HN.out,HW.out,HFR.out⟩
     case measure=>simp [intOf]; omega
    ·have HN:=Lib.hid (HD.out.keep hlt hv)
     rw [hv] at HC
     have HS:=Lib.hid (HW.out.set i (.int .u32 (xs.getD j' 0:Nat)))
     have HF2:=Lib.hid (HFR.out.trans (Frb.set g i wr (.int .u32 (xs.getD j' 0:Nat))))
     rw [← u32s_set] at HS
     clear hv
     generalize xs.getD j' 0=y at hc1 HC HS HF2 HN
     go_wp2_with fail
     refine (HC.out _).mono ?_
     rintro e w' ⟨rfl,rfl⟩
     go_wp2_with fail
     go_roundw
     case rel=>exact⟨i+1,j'+1,ys.set i y,by go_num,by go_num,HN.out,HS.out,HF2.out⟩
     case measure=>simp [intOf]; omega
   ·obtain rfl:j'=xs.length:=by omega
    have HE:=Lib.hid (show OnlyP g c xs w (.returned (.slice (some ⟨g,0,none⟩) i c)) (wr.setCells g i (List.replicate (xs.length-i) (.int .u32 0))) from by
     have h1:=HD.out.fst
     have h2:=HD.out.il
     rw [List.take_length] at h1 h2
     refine⟨by rw [h2],?_,HFR.out.trans (Frb.setCells g _ i wr)⟩
     have h3:=HW.out.short i
     rw [u32s_take,h1] at h3
     exact h3.setCells _ i wr (by rw [u32s_len,h2]; exact Nat.le_refl _))
    have hcl:∀ ty,(Builtin.clear_ #[101] ty #[.slice (some ⟨g,i,none⟩) (xs.length-i) (c-i)]).run Tryz.prog wr = .ok (.tuple #[]) (wr.setCells g i (List.replicate (xs.length-i) (.int .u32 0))):=
     fun ty=>Lib.run_clear_slice wr _ _ ty _ Tryz.underlying101 Tryz.zeroValue54 rfl rfl g i _ _ (by omega) (fun t ht=>by
      rw [HW.out.cell (u32s_get (l:=ys) (i:=i+t) (by rw [hyl2.out]; omega))]; rfl) (fun t ht=>HW.out.frozen _)
    have hne:¬ c=i:=by omega
    have hne2:¬ i=c:=by omega
    clear HD HW HFR
    go_wp2_with fail
    go_ret
    exact HE.out
theorem only_any {w:World} (g c:Nat) (xs:List Nat) (hR:Row w g 54 c (u32s xs)) (hn:xs.length≤9223372036854775807) (h32:∀ x∈xs,x<4294967296):
 Calls Tryz.prog 219 #[.slice (some ⟨g,0,none⟩) xs.length c] w (OnlyP g c xs w):=by
 have HD:=Lib.hid (deleteO_any g c xs hR hn h32)
 clear hR h32
 unfold onlyFn at HD
 go_enter Tryz.func219,Tryz.ntmps219
 go_wp2_with fail
 refine HD.out.mono ?_
 rintro e w' ⟨rfl,h1,h2⟩
 have H1:=Lib.hid h1
 have H2:=Lib.hid h2
 clear h1 h2
 go_wp2_with fail
 go_ret
 exact⟨rfl,H1.out,H2.out⟩
end
section
open Go.RowKit
attribute [local go_sem] Oper.semAt_some
section
variable {w:World} {p:HP} {h:HM} {l:List Ob}
theorem fields_len (G:h.Good l) {o:Nat} (hi:h.isB o=true):(h.fields o).length=(h.hd (o / 2)).size:=by
 obtain⟨a,b,c,rfl,rfl⟩:=(G.laid.isB_iff o).1 hi
 rw [G.laid.fields_at,half_pos,G.laid.hd_at,G.laid.ok_at.size]
theorem hd_size (G:h.Good l) {o:Nat} (hi:h.isB o=true):(h.hd (o / 2)).size≤65535:=by
 obtain⟨a,b,c,rfl,rfl⟩:=(G.laid.isB_iff o).1 hi
 rw [half_pos,G.laid.hd_at]
 have k:=G.laid.ok_at
 have:=k.may
 unfold Hd.may at this
 simp at this
 omega
theorem isB_u32 (G:h.Good l) {o:Nat} (hi:h.isB o=true):o<4294967296:=by
 obtain⟨a,b,c,rfl,rfl⟩:=(G.laid.isB_iff o).1 hi
 have:=G.laid.words_len
 have:=G.fit.room
 have:=G.fit.hi
 omega
theorem kget_any (H:HAt w p h) (G:h.Good l) (hs:Spares w) {o:Nat} (hi:h.isB o=true) (hp:(h.hd (o / 2)).ptrB=true) (i:Nat) (hlt:i<(h.fields o).length):
 Calls Tryz.prog 175 #[ptr p.g,.int .u32 o,.int .i64 i] w (Told (.tuple #[.int .u32 ((h.fields o).getD i 0:Nat),.int .i64 0]) w):=by
 have ho:=isB_u32 G hi
 have hG:=get_any H G.fit G.laid.heads hs o ho (i:Int)
 have hfl:=fields_len G hi
 have hp':(h.hd (o / 2)).fmt=1∨(h.hd (o / 2)).fmt=4:=by
  unfold Hd.ptrB at hp
  simpa using hp
 have hln:(h.hd (o / 2)).len=(h.hd (o / 2)).size:=by unfold Hd.len; rw [if_neg (by omega)]
 have he:h.lookE o (i:Int) [1,4]=0:=by
  unfold HM.lookE
  rw [hi,if_neg (by decide),if_neg (by rcases hp' with e | e <;> rw [e] <;> decide),if_neg (by omega)]
 have hw:fw h o i=(h.fields o).getD i 0:=by
  obtain⟨a,b,c,rfl,rfl⟩:=(G.laid.isB_iff o).1 hi
  rw [G.laid.fields_at] at hlt ⊢
  exact G.laid.f_at i hlt
 unfold HM.readV at hG
 rw [he,if_pos rfl,Int.toNat_natCast,hw] at hG
 exact hG
def namM (h:HM) (o:Nat) (held:Bool):List Nat:=if held then heldM h o else namesM h o
def NamedP (os:List Nat) (w:World) (e:Ending) (w':World):Prop:=
 ∃ g c,e = .returned (.slice (some ⟨g,0,none⟩) (os.filter k2).length c)∧w.heap.size≤g∧Row w' g 54 c (u32s (os.filter k2))∧Below w.heap.size w w'
theorem names_32 (G:h.Good l) {o:Nat} (hi:h.isB o=true):∀ x∈namesM h o,x<4294967296:=by
 obtain⟨a,b,c,rfl,rfl⟩:=(G.laid.isB_iff o).1 hi
 intro x hx
 unfold namesM at hx
 rw [half_pos,G.laid.hd_at,G.laid.fields_at] at hx
 have k:=G.laid.ok_at
 rcases List.mem_cons.1 hx with rfl | hx
 ·exact k.fit.cls
 ·split at hx
  ·exact k.f32 x hx
  ·cases hx
theorem nam_32 (G:h.Good l) {o:Nat} (hi:h.isB o=true) (held:Bool):∀ x∈namM h o held,x<4294967296:=by
 intro x hx
 refine names_32 G hi x ?_
 unfold namM at hx
 split at hx
 ·exact held_names hx
 ·exact hx
theorem one_u32 (x:Nat):∀ u∈u32s [x],u.oneCell'=true:=by
 intro u hu
 rcases List.mem_singleton.1 hu with rfl
 rfl
theorem u32s_app (a b:List Nat):u32s (a++b)=u32s a++u32s b:=by unfold u32s; rw [List.map_append]
theorem own_newO (w:World) (xs:List Nat) (n:Nat) (hl:xs.length=n) (hn:n≤maxLen):(w.alloc (.cells (u32s xs).toArray 54)).ownsRow w.heap.size 54 1 (.slice (some ⟨w.heap.size,0,none⟩) n n) n (u32s xs):=by
 subst hl
 exact⟨by simp [u32s_len],.inr ⟨w.heap.size,xs.length,(u32s xs).toArray,rfl,Nat.le_refl _,heap_alloc_new w _,Nat.le_refl _,hn,by simp [u32s_len],by rw [Nat.mul_one,List.take_of_length_le (by simp [u32s])]⟩⟩
theorem own_base {w:World} {B B' s n:Nat} {e:TypeId} {v:Value} {xs:List Value} (h:w.ownsRow B e s v n xs) (hb:B'≤B):w.ownsRow B' e s v n xs:=by
 refine⟨h.1,?_⟩
 rcases h.2 with h1 | ⟨g,cap,cur,h1,h2,h3⟩
 ·exact .inl h1
 ·exact .inr ⟨g,cap,cur,h1,Nat.le_trans hb h2,h3⟩
theorem own_below {w w':World} {B s n:Nat} {e:TypeId} {v:Value} {xs:List Value} (h:w.ownsRow B e s v n xs) (hb:Below w.heap.size w w'):w'.ownsRow B e s v n xs:=by
 refine⟨h.1,?_⟩
 rcases h.2 with h1 | ⟨g,cap,cur,h1,h2,h3,h4⟩
 ·exact .inl h1
 ·exact .inr ⟨g,cap,cur,h1,h2,(hb.block g (lt_of_get h3)).trans h3,h4⟩
theorem only_end {w w3:World} {os:List Nat} {v:Value} (hown:w3.ownsRow w.heap.size 54 1 v os.length (u32s os)) (h0:0<os.length) (hn:os.length≤9223372036854775807) (h32:∀ x∈os,x<4294967296) (hb:Below w.heap.size w w3):
 Calls Tryz.prog 219 #[v] w3 (NamedP os w):=by
 obtain⟨g,c,rfl,hr,_,hg⟩:=Row.of_any hown h0
 refine (only_any g c os hr hn h32).mono ?_
 rintro e w4 ⟨rfl,hr4,hf⟩
 exact⟨g,c,rfl,hg,hr4,hb.trans (hf.below hg hb.size)⟩
set_option maxRecDepth 100000 in
set_option maxHeartbeats 4000000 in
theorem named_any (H:HAt w p h) (G:h.Good l) (hs:Spares w) {o:Nat} (hi:h.isB o=true) (held:Bool):
 Calls Tryz.prog 261 #[ptr p.g,.int .u32 o,.bool held] w (NamedP (namM h o held) w):=by
 have HH:=Lib.hid (Header_any H G.fit G.laid.heads hs o (isB_u32 G hi))
 have hV:h.headerV o = .tuple #[(h.hd (o / 2)).val,.int .i64 0]:=by unfold HM.headerV; simp [hi]
 rw [hV] at HH
 have HG:=Lib.hid (fun (w':World) (hb:Below w.heap.size w w') (hp:(h.hd (o / 2)).ptrB=true) i hlt=>kget_any (H.below hb) G (hs.below hb) hi hp i hlt)
 have h32:=nam_32 G hi held
 have hfl:=fields_len G hi
 have hsz:=hd_size G hi
 have HN:=Lib.hid (show namM h o held=(h.hd (o / 2)).cls :: (if (if held=true then (h.hd (o / 2)).fmt=1 else (h.hd (o / 2)).ptrB=true) then h.fields o else []) from by
  unfold namM heldM namesM
  cases held <;> simp)
 clear hV H G hs hi
 generalize h.hd (o / 2)=X at *
 generalize h.fields o=fs at *
 generalize namM h o held=ns at *
 have H32:=Lib.hid h32
 clear h32
 obtain⟨i0,hi0,hz0,hz1,hz2⟩:=info_parts info_oop
 obtain⟨n,t,s,c,r⟩:=X
 simp only at HG HN hfl hsz
 unfold Hd.val at HH
 unfold ptr at HH HG ⊢
 go_enter Tryz.func261,Tryz.ntmps261
 go_wp2_with fail
 refine HH.out.mono ?_
 rintro e w1 ⟨rfl,hb1⟩
 have hb2:=hb1.alloc hb1.size (.cells #[.int .i64 (n:Int),.int .i64 (t:Int),.int .i64 (s:Int),.int .u32 (c:Int),.int .u32 (r:Int)] 75)
 have BX:=Lib.hid ((Blk.new w1 75 #[.int .i64 (n:Int),.int .i64 (t:Int),.int .i64 (s:Int),.int .u32 (c:Int),.int .u32 (r:Int)]).alloc (.cells #[.int .u32 (c:Int)] 54))
 have hown:=own_newO (w1.alloc (.cells #[.int .i64 (n:Int),.int .i64 (t:Int),.int .i64 (s:Int),.int .u32 (c:Int),.int .u32 (r:Int)] 75)) [c] 1 rfl (by decide)
 rw [World.size_alloc] at hown
 have HOW:=Lib.hid (show ((w1.alloc (.cells #[.int .i64 (n:Int),.int .i64 (t:Int),.int .i64 (s:Int),.int .u32 (c:Int),.int .u32 (r:Int)] 75)).alloc (.cells #[.int .u32 (c:Int)] 54)).ownsRow w.heap.size 54 1 (.slice (some ⟨w1.heap.size+1,0,none⟩) 1 1) 1 (u32s [c]) from own_base hown (by have:=hb1.size; omega))
 have HB3:=Lib.hid (hb2.alloc hb2.size (.cells #[.int .u32 (c:Int)] 54))
 clear hb1 hb2 HH hown
 go_upto_region 3 with fail
 generalize (w1.alloc (.cells #[.int .i64 (n:Int),.int .i64 (t:Int),.int .i64 (s:Int),.int .u32 (c:Int),.int .u32 (r:Int)] 75)).alloc (.cells #[.int .u32 (c:Int)] 54)=W3 at *
 obtain⟨x0,x1,x2,x3,x4⟩:=BX.out.cells5
 clear BX
 have HPD:∀ b,Hd.ptrB ⟨n,b,s,c,r⟩=(decide (b=1) || decide (b=4)):=fun _=>rfl
 by_cases h1:t=1
 ·have hi1:((t:Int) == 1)=true:=by simp; omega
  have HPT:=Lib.hid (show Hd.ptrB ⟨n,t,s,c,r⟩=true by simp [Hd.ptrB,h1])
  have HNS:=Lib.hid (show ns=c :: fs by rw [HN.out]; cases held <;> simp [Hd.ptrB,h1])
  clear HN HPD h1
  go_wp2_with fail
  clear x0 x1 x2 x3 x4
  go_loopw [9,10,11,12,36] (fun lv _ _ _ iv wr=>∃ k:Nat,iv = .int .i64 k∧k≤n∧wr.ownsRow w.heap.size 54 1 lv (k+1) (u32s (c :: fs.take k))∧Below w.heap.size w wr) (fun _ _ _ _ iv _=>n-(intOf iv).toNat)
  case atStart=>exact⟨0,rfl,by omega,HOW.out,HB3.out⟩
  case round=>
   clear HOW HB3
   obtain⟨k,rfl,hk,hown,hb⟩:=hrel
   have HOW:=Lib.hid hown
   have HB:=Lib.hid hb
   clear hown hb
   by_cases hlt:k<n
   ·have HGT:=Lib.hid (HG.out wr HB.out HPT.out k (by rw [hfl]; exact hlt))
    have hsn:u32s (c :: fs.take k)++u32s [fs.getD k 0]=u32s (c :: fs.take (k+1)):=by
     rw [← u32s_app,List.cons_append,List.take_add_one,List.getElem?_eq_getElem (by rw [hfl]; exact hlt),List.getD_eq_getElem?_getD,List.getElem?_eq_getElem (by rw [hfl]; exact hlt)]
     rfl
    have HSN:=Lib.hid hsn
    clear hsn
    generalize fs.getD k 0=y at HGT HSN
    go_wp2_with fail
    refine HGT.out.mono ?_
    rintro e w5 ⟨rfl,hb5⟩
    have HO5:=Lib.hid (own_below HOW.out hb5)
    have HB5:=Lib.hid (HB.out.trans (hb5.mono HB.out.size))
    have hBw:w.heap.size≤w5.heap.size:=HB5.out.size
    clear hb5 HOW HGT HB
    go_wp2_with (at_builtin; refine wpList_append_any _ rfl (.tmp 46) (.tmp 48) _ rfl w.heap.size 54 i0 _ 1 4 Tryz.underlying101 hi0 hz0 hz1 hz2 rfl (by omega) u9 (k+1) _ rfl (HO5.out.alloc _) (w5.heap.size+1) (some ⟨w5.heap.size,0,none⟩) 1 1 (u32s [y]) rfl ⟨rfl,fun _=>⟨_,rfl,by simp,cell_one_new _ _ _⟩⟩ (one_u32 _) (by simp only [maxLen]; omega) (by omega) (by simp; omega) ?_; intro v1 w6 hown6 hgrow hat6)
    go_roundw
    case rel=>
     exact⟨k+1,by go_num,by omega,by rw [← HSN.out]; exact hown6,below_grown (Nat.le_refl _) (HB5.out.alloc HB5.out.size _) hgrow (fun q hq=>(HO5.out.lt q hq).1)⟩
    case measure=>simp [intOf]; omega
   ·obtain rfl:k=n:=by omega
    have hns:ns=c :: fs.take k:=by rw [HNS.out,List.take_of_length_le (by rw [hfl]; exact Nat.le_refl _)]
    have hnl:ns.length=k+1:=by rw [hns]; simp; omega
    have HE:=Lib.hid (only_end (w:=w) (os:=ns) (by rw [hnl,hns]; exact HOW.out) (by omega) (by omega) H32.out HB.out)
    clear HOW HB hns
    go_wp2_with fail
    refine HE.out.mono ?_
    rintro e w7 ⟨g7,c7,rfl,h71,h72,h73⟩
    have H7:=Lib.hid (show NamedP ns w (.returned (.slice (some ⟨g7,0,none⟩) (ns.filter k2).length c7)) w7 from⟨g7,c7,rfl,h71,h72,h73⟩)
    clear h71 h72 h73 HE
    go_wp2_with fail
    go_ret
    exact H7.out
 by_cases h4:t=4
 ·have hi1:((t:Int) == 1)=false:=by simp; omega
  have hi4:((t:Int) == 4)=true:=by simp; omega
  cases held with
  | false=>
    have HPT:=Lib.hid (show Hd.ptrB ⟨n,t,s,c,r⟩=true by simp [Hd.ptrB,h4])
    have HNS:=Lib.hid (show ns=c :: fs by rw [HN.out]; simp [Hd.ptrB,h4])
    clear HN HPD h1 h4
    go_wp2_with fail
    clear x0 x1 x2 x3 x4
    go_loopw [9,10,11,12,36] (fun lv _ _ _ iv wr=>∃ k:Nat,iv = .int .i64 k∧k≤n∧wr.ownsRow w.heap.size 54 1 lv (k+1) (u32s (c :: fs.take k))∧Below w.heap.size w wr) (fun _ _ _ _ iv _=>n-(intOf iv).toNat)
    case atStart=>exact⟨0,rfl,by omega,HOW.out,HB3.out⟩
    case round=>
     clear HOW HB3
     obtain⟨k,rfl,hk,hown,hb⟩:=hrel
     have HOW:=Lib.hid hown
     have HB:=Lib.hid hb
     clear hown hb
     by_cases hlt:k<n
     ·have HGT:=Lib.hid (HG.out wr HB.out HPT.out k (by rw [hfl]; exact hlt))
      have hsn:u32s (c :: fs.take k)++u32s [fs.getD k 0]=u32s (c :: fs.take (k+1)):=by
       rw [← u32s_app,List.cons_append,List.take_add_one,List.getElem?_eq_getElem (by rw [hfl]; exact hlt),List.getD_eq_getElem?_getD,List.getElem?_eq_getElem (by rw [hfl]; exact hlt)]
       rfl
      have HSN:=Lib.hid hsn
      clear hsn
      generalize fs.getD k 0=y at HGT HSN
      go_wp2_with fail
      refine HGT.out.mono ?_
      rintro e w5 ⟨rfl,hb5⟩
      have HO5:=Lib.hid (own_below HOW.out hb5)
      have HB5:=Lib.hid (HB.out.trans (hb5.mono HB.out.size))
      have hBw:w.heap.size≤w5.heap.size:=HB5.out.size
      clear hb5 HOW HGT HB
      go_wp2_with (at_builtin; refine wpList_append_any _ rfl (.tmp 46) (.tmp 48) _ rfl w.heap.size 54 i0 _ 1 4 Tryz.underlying101 hi0 hz0 hz1 hz2 rfl (by omega) u9 (k+1) _ rfl (HO5.out.alloc _) (w5.heap.size+1) (some ⟨w5.heap.size,0,none⟩) 1 1 (u32s [y]) rfl ⟨rfl,fun _=>⟨_,rfl,by simp,cell_one_new _ _ _⟩⟩ (one_u32 _) (by simp only [maxLen]; omega) (by omega) (by simp; omega) ?_; intro v1 w6 hown6 hgrow hat6)
      go_roundw
      case rel=>
       exact⟨k+1,by go_num,by omega,by rw [← HSN.out]; exact hown6,below_grown (Nat.le_refl _) (HB5.out.alloc HB5.out.size _) hgrow (fun q hq=>(HO5.out.lt q hq).1)⟩
      case measure=>simp [intOf]; omega
     ·obtain rfl:k=n:=by omega
      have hns:ns=c :: fs.take k:=by rw [HNS.out,List.take_of_length_le (by rw [hfl]; exact Nat.le_refl _)]
      have hnl:ns.length=k+1:=by rw [hns]; simp; omega
      have HE:=Lib.hid (only_end (w:=w) (os:=ns) (by rw [hnl,hns]; exact HOW.out) (by omega) (by omega) H32.out HB.out)
      clear HOW HB hns
      go_wp2_with fail
      refine HE.out.mono ?_
      rintro e w7 ⟨g7,c7,rfl,h71,h72,h73⟩
      have H7:=Lib.hid (show NamedP ns w (.returned (.slice (some ⟨g7,0,none⟩) (ns.filter k2).length c7)) w7 from⟨g7,c7,rfl,h71,h72,h73⟩)
      clear h71 h72 h73 HE
      go_wp2_with fail
      go_ret
      exact H7.out
  | true=>
    have HNS:=Lib.hid (show ns=[c] by rw [HN.out]; simp [h4])
    clear HN HPD h1 h4 HG
    have HE:=Lib.hid (only_end (w:=w) (os:=ns) (by rw [HNS.out]; exact HOW.out) (by rw [HNS.out]; simp) (by rw [HNS.out]; simp) H32.out HB3.out)
    have hnl:ns.length=1:=by rw [HNS.out]; rfl
    clear HOW HB3 HNS
    go_wp2_with fail
    refine HE.out.mono ?_
    rintro e w7 ⟨g7,c7,rfl,h71,h72,h73⟩
    have H7:=Lib.hid (show NamedP ns w (.returned (.slice (some ⟨g7,0,none⟩) (ns.filter k2).length c7)) w7 from⟨g7,c7,rfl,h71,h72,h73⟩)
    clear h71 h72 h73 HE
    go_wp2_with fail
    go_ret
    exact H7.out
 ·have hi1:((t:Int) == 1)=false:=by simp; omega
  have hi4:((t:Int) == 4)=false:=by simp; omega
  have HNS:=Lib.hid (show ns=[c] by rw [HN.out]; cases held <;> simp [Hd.ptrB,h1,h4])
  clear HN HPD h1 h4 HG
  have HE:=Lib.hid (only_end (w:=w) (os:=ns) (by rw [HNS.out]; exact HOW.out) (by rw [HNS.out]; simp) (by rw [HNS.out]; simp) H32.out HB3.out)
  have hnl:ns.length=1:=by rw [HNS.out]; rfl
  clear HOW HB3 HNS
  go_wp2_with fail
  refine HE.out.mono ?_
  rintro e w7 ⟨g7,c7,rfl,h71,h72,h73⟩
  have H7:=Lib.hid (show NamedP ns w (.returned (.slice (some ⟨g7,0,none⟩) (ns.filter k2).length c7)) w7 from⟨g7,c7,rfl,h71,h72,h73⟩)
  clear h71 h72 h73 HE
  go_wp2_with fail
  go_ret
  exact H7.out
end
end
section
open Go.RowKit
theorem getD_pre {α:Type} {l l':List α} {d:α} (hp:l <+: l') {j:Nat} (hj:j<l.length):l'.getD j d=l.getD j d:=by
 obtain⟨t,rfl⟩:=hp
 exact getD_app_left _ _ _ _ hj
theorem walkF_shut (nm:Nat→List Nat):∀ (f i:Nat) (l:Wk),(walkF nm f i l).length<f+i→(∀ j,j<i→j<l.length→∀ x∈nm (l.getD j (0,0)).1,kindM x=2→x∈metO l)→
 ∀ j,j<(walkF nm f i l).length→∀ x∈nm ((walkF nm f i l).getD j (0,0)).1,kindM x=2→x∈metO (walkF nm f i l)
 | 0,i,l,hf,h=>by
   intro j hj x hx hk
   unfold walkF at hf hj hx ⊢
   exact h j (by omega) hj x hx hk
 | f + 1,i,l,hf,h=>by
   by_cases hi:i<l.length
   ·have e:walkF nm (f+1) i l=walkF nm f (i+1) (putsW l (nm (l.getD i (0,0)).1) (i:Int)):=by
     conv=>lhs; unfold walkF
     rw [if_pos hi]
    rw [e] at hf ⊢
    refine walkF_shut nm f (i+1) _ (by omega) (fun j hj hjl x hx hk=>?_)
    have hp:=putsW_pre l (nm (l.getD i (0,0)).1) (i:Int)
    rcases Nat.lt_or_ge j i with h1 | h1
    ·rw [getD_pre hp (by omega)] at hx
     exact putsW_mem.2 (.inl (h j h1 (by omega) x hx hk))
    ·obtain rfl:j=i:=by omega
     rw [getD_pre hp hi] at hx
     exact putsW_mem.2 (.inr ⟨hx,hk⟩)
   ·have e:walkF nm (f+1) i l=l:=by unfold walkF; rw [if_neg hi]
    rw [e] at hf ⊢
    intro j hj x hx hk
    exact h j (by omega) hj x hx hk
theorem metO_get {l:Wk} {o:Nat} (h:o∈metO l):∃ j,j<l.length∧(l.getD j (0,0)).1=o:=by
 unfold metO at h
 obtain⟨p,hp,rfl⟩:=List.mem_map.1 h
 obtain⟨j,hj,rfl⟩:=List.getElem_of_mem hp
 exact⟨j,hj,by rw [List.getD_eq_getElem?_getD,List.getElem?_eq_getElem hj]; rfl⟩
section
variable {h:HM} {l:List Ob}
theorem walk_len (G:h.Good l) {fr:List Nat} (hf:∀ x∈fr,h.valB x=true):(walkM (heldM h) fr).length≤1048576:=wk_len G (walkM_nodup _ _) (walk_isB G hf)
theorem walk_shut (G:h.Good l) {fr:List Nat} (hf:∀ x∈fr,h.valB x=true) {o x:Nat} (ho:o∈metO (walkM (heldM h) fr)) (hx:x∈heldM h o) (hk:kindM x=2):x∈metO (walkM (heldM h) fr):=by
 obtain⟨j,hj,rfl⟩:=metO_get ho
 have hl:=walk_len G hf
 exact walkF_shut (heldM h) 2097152 0 _ (by unfold walkM at hl; omega) (fun j hj=>by omega) j hj x hx hk
theorem walk_root {nm:Nat→List Nat} {fr:List Nat} {x:Nat} (hx:x∈fr) (hk:kindM x=2):x∈metO (walkM nm fr):=by
 obtain⟨t,ht⟩:=walkF_pre nm 2097152 0 (putsW [] fr (-1))
 unfold walkM
 rw [← ht]
 unfold metO
 rw [List.map_append]
 exact List.mem_append_left _ (putsW_mem.2 (.inr ⟨hx,hk⟩))
def keepZ (h:HM) (l:List Ob):List (Nat × Ob):=((oopsL l).zip l).filter (fun p=>decide (p.1∈metO (walkM (heldM h) h.roots)))
theorem keepZ_fst (h:HM) (l:List Ob):(keepZ h l).map (·.1)=liveO h l:=by
 unfold liveO
 have e:oopsL l=((oopsL l).zip l).map (·.1):=(List.map_fst_zip (by rw [oopsL_len]; exact Nat.le_refl _)).symm
 conv=>rhs; rw [e]
 rw [List.filter_map]
 rfl
theorem keepZ_len (h:HM) (l:List Ob):(keepZ h l).length=(liveO h l).length:=by rw [← keepZ_fst,List.length_map]
theorem keepZ_snd (h:HM) (l:List Ob):((keepZ h l).map (·.2)).Sublist l:=by
 have e:l=((oopsL l).zip l).map (·.2):=(List.map_snd_zip (by rw [oopsL_len]; exact Nat.le_refl _)).symm
 conv=>rhs; rw [e]
 exact List.Sublist.map _ List.filter_sublist
theorem keepZ_mem {p:Nat × Ob} (hp:p∈keepZ h l):∃ j,∃ hj:j<l.length,p.1=2*posOf (l.take j)∧p.2=l[j]∧p.1∈metO (walkM (heldM h) h.roots):=by
 unfold keepZ at hp
 rw [List.mem_filter] at hp
 obtain⟨hz,hd⟩:=hp
 obtain⟨j,hj,rfl⟩:=List.getElem_of_mem hz
 rw [List.length_zip,oopsL_len] at hj
 have hj':j<l.length:=by omega
 refine⟨j,hj',?_,?_,by simpa using hd⟩
 ·rw [List.getElem_zip]
  have:=oopsL_get hj'
  rw [List.getElem?_eq_getElem (by rw [oopsL_len]; exact hj')] at this
  injection this
 ·rw [List.getElem_zip]
theorem keepZ_nodup (h:HM) (l:List Ob):((keepZ h l).map (·.1)).Nodup:=by
 rw [keepZ_fst,List.nodup_iff_pairwise_ne]
 exact (liveO_lt h l).imp (fun h=>by omega)
theorem keepZ_held (G:h.Good l) {p:Nat × Ob} (hp:p∈keepZ h l):heldM h p.1=p.2.x.cls :: (if p.2.x.fmt=1 then p.2.fs else []):=by
 obtain⟨j,hj,h1,h2,_⟩:=keepZ_mem hp
 have L:=G.laid
 rw [split_at l j hj] at L
 unfold heldM
 rw [h1,half_pos,L.hd_at,L.fields_at,h2]
def planF:Nat→List (Nat × Ob)→List (Nat × Nat)
 | _,[]=>[]
 | a,p :: r=>(p.1,2*a) :: planF (a+3+p.2.fs.length) r
def planM (h:HM) (l:List Ob):List (Nat × Nat):=planF 1 (keepZ h l)
theorem planF_len:∀ (a:Nat) (z:List (Nat × Ob)),(planF a z).length=z.length
 | _,[]=>rfl
 | a,p :: r=>by simp [planF,planF_len]
theorem planF_fst:∀ (a:Nat) (z:List (Nat × Ob)),(planF a z).map (·.1)=z.map (·.1)
 | _,[]=>rfl
 | a,p :: r=>by simp [planF,planF_fst]
theorem planF_get:∀ (a:Nat) (z:List (Nat × Ob)) (k:Nat) (hk:k<z.length),(planF a z)[k]? = some ((z[k]).1,2*(a+(wsOf ((z.take k).map (·.2))).length))
 | a,p :: r,0,_=>by simp [planF,wsOf_nil]
 | a,p :: r,k+1,hk=>by
   have:=planF_get (a+3+p.2.fs.length) r k (by simpa using hk)
   simp only [planF,List.getElem?_cons_succ,List.getElem_cons_succ,List.take_succ_cons,List.map_cons,wsOf_cons,List.length_append,Ob.ws_len]
   rw [this]
   congr 3
   omega
theorem planM_fst (h:HM) (l:List Ob):(planM h l).map (·.1)=liveO h l:=by unfold planM; rw [planF_fst,keepZ_fst]
def goesM (pl:List (Nat × Nat)) (x:Nat):Nat:=((pl.find? (fun p=>p.1 == x)).map (·.2)).getD 0
def whereM (pl:List (Nat × Nat)) (x:Nat):Nat:=if kindM x=2 then goesM pl x else x
theorem goesM_no {pl:List (Nat × Nat)} {x:Nat} (h:x∉pl.map (·.1)):goesM pl x=0:=by
 unfold goesM
 have h0:pl.find? (fun p=>p.1 == x)=none:=by
  rw [List.find?_eq_none]
  intro p hp he
  exact h (List.mem_map.2 ⟨p,hp,by simpa using he⟩)
 rw [h0]; rfl
theorem goesM_at {pl:List (Nat × Nat)} (hd:(pl.map (·.1)).Nodup) {k:Nat} {p:Nat × Nat} (hk:pl[k]? = some p):goesM pl p.1=p.2:=by
 induction pl generalizing k with
 | nil=>cases hk
 | cons q pl ih=>
   rw [List.map_cons,List.nodup_cons] at hd
   cases k with
   | zero=>
     rw [List.getElem?_cons_zero] at hk
     injection hk with hk
     subst hk
     simp [goesM]
   | succ k=>
     rw [List.getElem?_cons_succ] at hk
     have hne:(q.1 == p.1)=false:=by
      rw [beq_eq_false_iff_ne]
      intro e
      exact hd.1 (e ▸ List.mem_map.2 ⟨p,List.mem_of_getElem? hk,rfl⟩)
     have:=ih hd.2 hk
     unfold goesM at this ⊢
     rw [List.find?_cons,hne]
     exact this
def fldM (pl:List (Nat × Nat)) (void x:Nat):Nat:=if kindM x=2∧x∉pl.map (·.1) then void else whereM pl x
def relob (pl:List (Nat × Nat)) (void:Nat) (b:Ob):Ob:=⟨{ b.x with cls:=whereM pl b.x.cls },if b.x.ptrB then b.fs.map (fldM pl void) else b.fs⟩
def voidM (h:HM) (l:List Ob):Nat:=whereM (planM h l) (h.roots.getD 0 0)
def colL (h:HM) (l:List Ob):List Ob:=(keepZ h l).map (fun p=>relob (planM h l) (voidM h l) p.2)
def colR (h:HM) (l:List Ob):List Nat:=h.roots.map (whereM (planM h l))
def colH (h:HM) (l:List Ob):HM:=HM.ofWords h.size (0 :: wsOf (colL h l)) (colR h l) h.last
theorem relob_len (pl:List (Nat × Nat)) (void:Nat) (b:Ob):(relob pl void b).fs.length=b.fs.length:=by unfold relob; simp only; split <;> simp
theorem wsOf_same {g:Ob→Ob} (hg:∀ b,(g b).fs.length=b.fs.length) (L:List Ob):(wsOf (L.map g)).length=(wsOf L).length:=by
 induction L with
 | nil=>rfl
 | cons b L ih=>rw [List.map_cons,wsOf_cons,wsOf_cons,List.length_append,List.length_append,ih,Ob.ws_len,Ob.ws_len,hg]
theorem wsOf_sub {a b:List Ob} (h:a.Sublist b):(wsOf a).length≤(wsOf b).length:=by
 induction h with
 | slnil=>exact Nat.le_refl _
 | cons x _ ih=>rw [wsOf_cons,List.length_append]; omega
 | cons_cons x _ ih=>rw [wsOf_cons,wsOf_cons,List.length_append,List.length_append]; omega
theorem colL_eq (h:HM) (l:List Ob):colL h l=((keepZ h l).map (·.2)).map (relob (planM h l) (voidM h l)):=by unfold colL; rw [List.map_map]; rfl
theorem colL_len (h:HM) (l:List Ob):(colL h l).length=(keepZ h l).length:=by unfold colL; rw [List.length_map]
theorem colL_words (h:HM) (l:List Ob):(wsOf (colL h l)).length≤(wsOf l).length:=by
 rw [colL_eq,wsOf_same (relob_len _ _)]
 exact wsOf_sub (keepZ_snd h l)
theorem plan_get (h:HM) (l:List Ob) {k:Nat} (hk:k<(keepZ h l).length):(planM h l)[k]? = some (((keepZ h l)[k]).1,2*posOf ((colL h l).take k)):=by
 unfold planM
 rw [planF_get 1 _ k hk]
 congr 3
 unfold posOf
 rw [colL_eq,← List.map_take,wsOf_same (relob_len _ _),List.map_take]
theorem goes_live (h:HM) (l:List Ob) {o:Nat} (ho:o∈liveO h l):∃ k,k<(colL h l).length∧goesM (planM h l) o=2*posOf ((colL h l).take k):=by
 rw [← keepZ_fst] at ho
 obtain⟨p,hp,rfl⟩:=List.mem_map.1 ho
 obtain⟨k,hk,rfl⟩:=List.getElem_of_mem hp
 refine⟨k,by rw [colL_len]; exact hk,?_⟩
 exact goesM_at (by rw [planM_fst,← keepZ_fst]; exact keepZ_nodup h l) (plan_get h l hk)
theorem posOf_take_le (L:List Ob) (k:Nat):posOf (L.take k)≤1+(wsOf L).length:=by
 unfold posOf
 have:=wsOf_sub (List.take_sublist k L)
 omega
theorem goes_lt (G:h.Good l) (o:Nat):goesM (planM h l) o<4294967296:=by
 by_cases ho:o∈liveO h l
 ·obtain⟨k,hk,e⟩:=goes_live h l ho
  rw [e]
  have h1:=posOf_take_le (colL h l) k
  have h2:=colL_words h l
  have h3:=G.fit.room
  have h4:=G.fit.hi
  rw [G.laid.words,List.length_cons] at h3
  omega
 ·rw [goesM_no (by rw [planM_fst]; exact ho)]; decide
theorem where_lt (G:h.Good l) {o:Nat} (ho:o<4294967296):whereM (planM h l) o<4294967296:=by
 unfold whereM
 split
 ·exact goes_lt G o
 ·exact ho
theorem roots_lt (G:h.Good l) (i:Nat):h.roots.getD i 0<4294967296:=by
 rw [List.getD_eq_getElem?_getD]
 cases hh:h.roots[i]? with
 | none=>simp
 | some v=>simp; exact G.fit.r32 v (List.mem_of_getElem? hh)
theorem void_lt (G:h.Good l):voidM h l<4294967296:=where_lt G (roots_lt G 0)
theorem fld_lt (G:h.Good l) {o:Nat} (ho:o<4294967296):fldM (planM h l) (voidM h l) o<4294967296:=by
 unfold fldM
 split
 ·exact void_lt G
 ·exact where_lt G ho
theorem relob_ok (G:h.Good l) {b:Ob} (k:b.Ok):(relob (planM h l) (voidM h l) b).Ok:=by
 refine⟨⟨k.fit.size,k.fit.fmt,k.fit.spare,where_lt G k.fit.cls,k.fit.ser⟩,k.may,by rw [relob_len]; exact k.size,fun f hf=>?_⟩
 unfold relob at hf
 simp only at hf
 split at hf
 ·obtain⟨g,hg,rfl⟩:=List.mem_map.1 hf
  exact fld_lt G (k.f32 g hg)
 ·exact k.f32 f hf
theorem keepZ_ok (G:h.Good l) {p:Nat × Ob} (hp:p∈keepZ h l):p.2.Ok:=by
 obtain⟨j,hj,_,h2,_⟩:=keepZ_mem hp
 rw [h2]
 exact G.laid.ok _ (List.getElem_mem hj)
theorem colL_ok (G:h.Good l):∀ b∈colL h l,b.Ok:=by
 intro b hb
 unfold colL at hb
 obtain⟨p,hp,rfl⟩:=List.mem_map.1 hb
 exact relob_ok G (keepZ_ok G hp)
theorem col_parse (G:h.Good l):parseW (0 :: wsOf (colL h l))=some (colL h l):=parseW_obs (colL_ok G)
theorem col_laid (G:h.Good l):(colH h l).Laid (colL h l):=
 ⟨rfl,by show false :: msOf ((parseW (0 :: wsOf (colL h l))).getD [])=_; rw [col_parse G]; rfl,colL_ok G⟩
theorem col_isB (G:h.Good l) {o:Nat} (ho:o∈liveO h l):(colH h l).isB (goesM (planM h l) o)=true:=by
 obtain⟨k,hk,e⟩:=goes_live h l ho
 rw [e]
 exact ((col_laid G).isB_iff _).2 ⟨_,_,_,split_at _ k hk,rfl⟩
theorem live_of_held (G:h.Good l) {p:Nat × Ob} (hp:p∈keepZ h l) {x:Nat} (hx:x∈heldM h p.1) (hk:kindM x=2):x∈liveO h l:=by
 obtain⟨j,hj,h1,h2,h3⟩:=keepZ_mem hp
 exact (mem_liveO G).2 (walk_shut G G.sound.roots h3 hx hk)
theorem live_of_root (G:h.Good l) {x:Nat} (hx:x∈h.roots) (hk:kindM x=2):x∈liveO h l:=(mem_liveO G).2 (walk_root hx hk)
theorem val_where (G:h.Good l) {x:Nat} (hx:kindM x=2→x∈liveO h l):(colH h l).valB (whereM (planM h l) x)=true:=by
 unfold HM.valB
 rw [Bool.or_eq_true]
 unfold whereM
 by_cases hk:kindM x=2
 ·rw [if_pos hk]; exact .inr (col_isB G (hx hk))
 ·rw [if_neg hk]; exact .inl (by unfold objB; simpa using hk)
theorem void_val (G:h.Good l):(colH h l).valB (voidM h l)=true:=
 val_where G (fun hk=>by
  refine live_of_root G ?_ hk
  rw [List.getD_eq_getElem?_getD,List.getElem?_eq_getElem (by rw [G.fit.roots]; omega)]
  exact List.getElem_mem _)
theorem fld_val (G:h.Good l) (x:Nat):(colH h l).valB (fldM (planM h l) (voidM h l) x)=true:=by
 unfold fldM
 split
 ·exact void_val G
 ·rename_i hn
  exact val_where G (fun hk=>Classical.byContradiction fun hc=>hn ⟨hk,by rw [planM_fst]; exact hc⟩)
theorem col_sound (G:h.Good l):(colH h l).Sound (colL h l):=by
 have hsub:=keepZ_snd h l
 have hmem:∀ p∈keepZ h l,p.2∈l:=fun p hp=>hsub.subset (List.mem_map.2 ⟨p,hp,rfl⟩)
 refine⟨fun b hb=>?_,fun b hb hpb f hf=>?_,fun b hb hf=>?_,fun b hb=>?_,?_,fun r hr=>?_⟩
 ·unfold colL at hb
  obtain⟨p,hp,rfl⟩:=List.mem_map.1 hb
  show (colH h l).clsB (whereM (planM h l) p.2.x.cls)=true
  have hc:=G.sound.cls p.2 (hmem p hp)
  unfold HM.clsB at hc ⊢
  rw [Bool.or_eq_true] at hc ⊢
  rcases hc with hc | hc
  ·have hc:p.2.x.cls=0:=by simpa using hc
   rw [hc]
   exact .inl (by simp [whereM,kindM])
  ·have hk:=isB_kind hc
   unfold whereM
   rw [if_pos hk]
   exact .inr (col_isB G (live_of_held G hp (by rw [keepZ_held G hp]; simp) hk))
 ·unfold colL at hb
  obtain⟨p,hp,rfl⟩:=List.mem_map.1 hb
  unfold relob at hf
  simp only at hf
  split at hf
  ·obtain⟨g,hg,rfl⟩:=List.mem_map.1 hf
   exact fld_val G g
  ·rename_i hno
   exact absurd hpb hno
 ·unfold colL at hb
  obtain⟨p,hp,rfl⟩:=List.mem_map.1 hb
  have hf2:p.2.x.fmt=2:=hf
  have hnp:p.2.x.ptrB=false:=by unfold Hd.ptrB; simp [hf2]
  unfold relob
  simp only [hnp,Bool.false_eq_true,if_false]
  exact G.sound.spare p.2 (hmem p hp) hf2
 ·unfold colL at hb
  obtain⟨p,hp,rfl⟩:=List.mem_map.1 hb
  exact G.sound.sers p.2 (hmem p hp)
 ·have e:(colL h l).map (fun o=>o.x.ser)=((keepZ h l).map (·.2)).map (fun o=>o.x.ser):=by
   rw [colL_eq,List.map_map]
   rfl
  rw [e]
  exact (hsub.map _).nodup G.sound.nodup
 ·unfold colH HM.ofWords colR at hr
  obtain⟨x,hx,rfl⟩:=List.mem_map.1 hr
  exact val_where G (fun hk=>live_of_root G hx hk)
theorem col_w32 (G:h.Good l):∀ x∈0 :: wsOf (colL h l),x<4294967296:=by
 intro x hx
 rcases List.mem_cons.1 hx with rfl | hx
 ·decide
 ·unfold wsOf at hx
  obtain⟨b,hb,hx⟩:=List.mem_flatMap.1 hx
  have k:=colL_ok G b hb
  have:=w0_lt k.fit
  unfold Ob.ws at hx
  simp only [List.mem_cons] at hx
  rcases hx with rfl | rfl | rfl | hx
  ·omega
  ·exact k.fit.cls
  ·exact k.fit.ser
  ·exact k.f32 x hx
theorem col_r32 (G:h.Good l):∀ x∈colR h l,x<4294967296:=by
 intro x hx
 unfold colR at hx
 obtain⟨y,hy,rfl⟩:=List.mem_map.1 hx
 exact where_lt G (G.fit.r32 y hy)
theorem col_room (G:h.Good l):(0 :: wsOf (colL h l)).length≤h.words.length:=by
 rw [G.laid.words,List.length_cons,List.length_cons]
 have:=colL_words h l
 omega
theorem col_good (G:h.Good l):(colH h l).Good (colL h l):=
 HM.ofWords_good G.fit.lo G.fit.hi (col_w32 G) (col_r32 G) (by unfold colR; rw [List.length_map]; exact G.fit.roots) G.fit.l32 (Nat.le_trans (col_room G) G.fit.room) (col_parse G) (col_sound G)
theorem col_loadOk (G:h.Good l):LoadOk h.size (0 :: wsOf (colL h l)) (colR h l) h.last:=⟨colL h l,col_parse G,col_sound G⟩
def movedN (h:HM) (l:List Ob):Nat:=((planM h l).filter (fun p=>decide (p.1≠p.2))).length
def deadB (pl:List (Nat × Nat)) (x:Nat):Bool:=decide (kindM x=2∧x∉pl.map (·.1))
def clearedB (pl:List (Nat × Nat)) (b:Ob):Nat:=if b.x.ptrB then (b.fs.filter (deadB pl)).length else 0
def clearedN (h:HM) (l:List Ob):Nat:=((keepZ h l).map (fun p=>clearedB (planM h l) p.2)).sum
end
end
section
open Go.RowKit
attribute [local go_sem] Oper.semAt_some
structure TrailAt (w:World) (B gt bm:Nat) (v:Value) (l:Wk):Prop where
 box:Blk w gt 323 #[v,.map (some bm)]
 own:w.ownsRow B 54 1 v l.length (u32s (metO l))
 map:MapE 54 3 .i64 w bm l.length (byOf l) (fun x=>decide (x∈metO l))
 hg:B≤gt
 hm:B≤bm
 m32:∀ x∈metO l,x<4294967296
section
variable {w w':World} {B gt bm:Nat} {v v':Value} {l:Wk}
theorem TrailAt.below (T:TrailAt w B gt bm v l) (h:Below w.heap.size w w'):TrailAt w' B gt bm v l:=
 ⟨T.box.below h T.box.lt,own_below T.own h,T.map.below h,T.hg,T.hm,T.m32⟩
theorem byOf_put {l:Wk} {o:Nat} {b:Int} (h:o∉metO l):byOf (l++[(o,b)])=fun y=>if y=o then b else byOf l y:=by funext y; exact byOf_snoc b h y
theorem metB_put {l:Wk} {o:Nat} {b:Int}:(fun x=>decide (x∈metO (l++[(o,b)])))=fun y=>if y=o then true else decide (y∈metO l):=by
 funext y
 rw [metO_snoc]
 by_cases h:y=o
 ·rw [if_pos h]; simp [h]
 ·rw [if_neg h]; simp [h]
end
theorem own_ne_blk {w:World} {B s n g:Nat} {e t:TypeId} {v:Value} {xs:List Value} {cs:Array Value} (h:w.ownsRow B e s v n xs) (k:Blk w g t cs) (hne:e≠t):v.ownBlock≠some g:=by
 rcases h.2 with ⟨rfl,_⟩ | ⟨g',cap,cur,rfl,_,h3,_⟩
 ·intro e; cases e
 ·intro e
  injection e with e
  subst e
  unfold Blk at k
  rw [h3] at k
  injection k with k
  injection k with _ k
  exact hne k
theorem own_val {w:World} {B s n:Nat} {e:TypeId} {v:Value} {xs:List Value} (h:w.ownsRow B e s v n xs):∃ A c,v = .slice A n c:=by
 rcases h.2 with ⟨rfl,h0⟩ | ⟨g,cap,cur,rfl,_⟩
 ·have:n=0:=by first | exact h0 | (have:=h.1; simp_all) | omega
  subst this
  exact⟨none,0,rfl⟩
 ·exact ⟨_,_,rfl⟩
theorem own_keep {w w':World} {B s n:Nat} {e:TypeId} {v:Value} {xs:List Value} (h:w.ownsRow B e s v n xs) (hs:∀ k,v.ownBlock=some k→w'.heap[k]? = w.heap[k]?):w'.ownsRow B e s v n xs:=by
 refine⟨h.1,?_⟩
 rcases h.2 with h1 | ⟨g,cap,cur,h1,h2,h3,h4⟩
 ·exact .inl h1
 ·exact .inr ⟨g,cap,cur,h1,h2,(hs g (by rw [h1]; rfl)).trans h3,h4⟩
theorem own_ne_map {w:World} {B s n b m:Nat} {e K E:TypeId} {kd:IntKind} {v:Value} {xs:List Value} {f:Nat→Int} {hs:Nat→Bool} (h:w.ownsRow B e s v n xs) (k:MapE K E kd w b m f hs):v.ownBlock≠some b:=by
 rcases h.2 with ⟨rfl,_⟩ | ⟨g',cap,cur,rfl,_,h3,_⟩
 ·intro e; cases e
 ·intro e
  injection e with e
  subst e
  obtain⟨es,c,hb⟩:=k.obj
  rw [hb] at h3
  cases h3
def TputP (B gt bm:Nat) (l:Wk) (go co:Nat) (os:List Nat) (w:World) (e:Ending) (w':World):Prop:=
 e = .returned (.tuple #[])∧∃ v',TrailAt w' B gt bm v' l∧Below B w w'
set_option maxRecDepth 100000 in
set_option maxHeartbeats 4000000 in
theorem tput_any {w:World} {B gt bm go co:Nat} {v:Value} {l:Wk} {os:List Nat} (T:TrailAt w B gt bm v l) (hO:Row w go 54 co (u32s os)) (hne:v.ownBlock≠some go) (hB:B≤w.heap.size)
 (h32:∀ x∈os,x<4294967296) (hk:∀ x∈os,kindM x=2) (by_:Int) (hby:(Lit.int .i64 by_).wf=true) (hlen:l.length+os.length≤1000000000):
 Calls Tryz.prog 260 #[.pointer (some ⟨gt,0,none⟩),.int .i64 by_,.slice (some ⟨go,0,none⟩) os.length co] w (TputP B gt bm (putsW l os by_) go co os w):=by
 have HT:=Lib.hid T
 have HO:=Lib.hid hO
 have HNE:=Lib.hid hne
 have H32:=Lib.hid h32
 have HK:=Lib.hid hk
 have HBY:=Lib.hid hby
 obtain⟨i0,hi0,hz0,hz1,hz2⟩:=info_parts info_oop
 clear T hO hne h32 hk hby
 go_enter Tryz.func260,Tryz.ntmps260
 go_wp2_with fail
 go_loopw [7,8,9,12] (fun _ _ _ iv wr=>∃ (k:Nat) (v':Value),iv = .int .i64 k∧k≤os.length∧TrailAt wr B gt bm v' (putsW l (os.take k) by_)∧Row wr go 54 co (u32s os)∧v'.ownBlock≠some go∧Below B w wr) (fun _ _ _ iv _=>os.length-(intOf iv).toNat)
 case atStart=>exact⟨0,v,rfl,by omega,HT.out,HO.out,HNE.out,Below.refl _ _⟩
 case round=>
  clear HT HO HNE
  obtain⟨k,v',rfl,hk,ht,ho,hne,hb⟩:=hrel
  have HT:=Lib.hid ht
  have HO:=Lib.hid ho
  have HNE:=Lib.hid hne
  have HB:=Lib.hid hb
  clear ht ho hne hb
  by_cases hlt:k<os.length
  ·have hcl:=HO.out.cell (u32s_get (l:=os) (i:=k) hlt)
   have hx32:os.getD k 0<4294967296:=getD_u32 H32.out k
   have HS:=Lib.hid (show putsW l (os.take (k+1)) by_=putW (putsW l (os.take k) by_) (os.getD k 0) by_ by
    rw [List.take_add_one,List.getElem?_eq_getElem hlt,List.getD_eq_getElem?_getD,List.getElem?_eq_getElem hlt]
    exact putsW_snoc _ _ _ _)
   have HKX:=Lib.hid (show kindM (os.getD k 0)=2 from HK.out _ (by rw [List.getD_eq_getElem?_getD,List.getElem?_eq_getElem hlt]; exact List.getElem_mem _))
   have HL:=Lib.hid (show (putsW l (os.take k) by_).length≤1000000000-1 from by
    have h1:(putsW l (os.take k) by_).length≤l.length+(os.take k).length:=by
     generalize os.take k=q
     clear HT HO HNE HB HS HKX hcl hx32 hlt hk H32 HK HBY hi0 hz0 hz1 hz2 hlen
     induction q generalizing l with
     | nil=>simp [putsW]
     | cons a q ih=>
       rw [putsW_cons]
       have:=ih (l:=putW l a by_)
       have:(putW l a by_).length≤l.length+1:=by unfold putW; split <;> simp
       simp only [List.length_cons]
       omega
    rw [List.length_take] at h1
    omega)
   generalize os.getD k 0=x at *
   generalize putsW l (os.take k) by_=L at *
   have c0:=HT.out.box.cell 0
   have c1:=HT.out.box.cell 1
   have z0:=HT.out.box.frozen 0
   have hlook:=HT.out.map.look_ok tyOI hx32
   by_cases hin:x∈metO L
   ·have hdec:decide (x∈metO L)=true:=by simpa using hin
    rw [hdec] at hlook
    have HN:=Lib.hid (show putW L x by_=L from putW_old (fun h=>h.2 hin))
    generalize byOf L x=bx at hlook
    clear hdec hin
    go_wp2_with fail
    go_roundw
    case rel=>exact⟨k+1,v',by go_num,by omega,by rw [HS.out,HN.out]; exact HT.out,HO.out,HNE.out,HB.out⟩
    case measure=>simp [intOf]; omega
   ·have hdec:decide (x∈metO L)=false:=by simpa using hin
    rw [hdec] at hlook
    have HN:=Lib.hid (show putW L x by_=L++[(x,by_)] from putW_new HKX.out hin)
    have HIN:=Lib.hid hin
    obtain⟨w2,hrun,hmp,hg2⟩:=HT.out.map.put tyOI hx32 HBY.out (by have:=HL.out; omega)
    have HMP:=Lib.hid hmp
    have HG2:=Lib.hid hg2
    have HW2:=Lib.hid (show ∀ q,q<wr.heap.size→q≠bm→w2.heap[q]? = wr.heap[q]? from fun q hq hn=>hg2.block q hq (fun e=>by cases e; exact hn rfl))
    have n1:=HT.out.map.ne_blk HT.out.box
    have n2:=HT.out.map.ne_row HO.out
    have n3:=(HO.out.ne_blk HT.out.box (by decide))
    have hsz2:wr.heap.size≤w2.heap.size:=hg2.size
    have HBX:=Lib.hid (HT.out.box.same (HW2.out gt HT.out.box.lt (fun e=>n1 e.symm)))
    have HO2:=Lib.hid (HO.out.same (HW2.out go HO.out.lt (fun e=>n2 e.symm)))
    have HOW:=Lib.hid (show w2.ownsRow B 54 1 v' L.length (u32s (metO L)) from by
     have h0:=HT.out.own
     refine⟨h0.1,?_⟩
     rcases h0.2 with h1 | ⟨g,cap,cur,h1,h2,h3,h4⟩
     ·exact .inl h1
     ·exact .inr ⟨g,cap,cur,h1,h2,(HW2.out g (lt_of_get h3) (fun e=>by subst e; obtain⟨es,cc,hb⟩:=HT.out.map.obj; rw [hb] at h3; cases h3)).trans h3,h4⟩)
    have HB2:=Lib.hid (show Below B w w2 from HB.out.trans ⟨hg2.os,hg2.tape,hg2.output,hg2.size,fun q hq=>HW2.out q (by have:=HB.out.size; omega) (by have:=HT.out.hm; omega)⟩)
    have HMB:=Lib.hid (HT.out.m32)
    have HGM:=Lib.hid (And.intro HT.out.hg HT.out.hm)
    generalize byOf L x=bx at hlook
    clear hdec hin hmp hg2 n1 n2
    go_upto_region 6 with fail
    have c0':=HBX.out.cell 0
    have hOWne:v'.ownBlock≠some gt:=own_ne_blk HOW.out HBX.out (by decide)
    have hOWnm:v'.ownBlock≠some bm:=own_ne_map HOW.out HMP.out
    have HNS:=Lib.hid (And.intro hOWne hOWnm)
    have hb2s:B≤w2.heap.size:=by have:=HB2.out.size; omega
    clear c0 c1 z0 hlook hOWne hOWnm n3
    have hLl:=HL.out
    go_wp2_with (at_builtin; refine wpList_append_any _ rfl (.tmp 37) (.tmp 39) _ rfl B 54 i0 _ 1 4 Tryz.underlying101 hi0 hz0 hz1 hz2 rfl (by omega) v' L.length _ rfl (own_keep HOW.out (fun q hq=>Below.heap_alloc w2 (.cells #[.int .u32 (x:Int)] 54) q (HOW.out.lt q hq).2)) (w2.heap.size+1) (some ⟨w2.heap.size,0,none⟩) 1 1 (u32s [x]) rfl ⟨rfl,fun _=>⟨_,rfl,by simp,cell_one_new _ _ _⟩⟩ (one_u32 _) (by simp only [maxLen]; omega) (by omega) (by simp; omega) ?_; intro v1 w3 hown3 hgrow3 hat3; obtain⟨A3,c3,rfl⟩:=own_val hown3; have HG3:=Lib.hid (fun q (hq:q<w2.heap.size) (hn:v'.ownBlock≠some q)=>(hgrow3.block q (by simp; omega) (fun e=>hn (by first | exact e | exact e.symm))).trans (Below.heap_alloc w2 (.cells #[.int .u32 (x:Int)] 54) q hq)); have HBX3:=Lib.hid (HBX.out.same (HG3.out gt HBX.out.lt HNS.out.1)); have hz3:=HBX3.out.frozen 0; have hc3:=HBX3.out.cell 0)
    have HE:=Lib.hid (show TrailAt (w3.setCell ⟨gt,0,none⟩ (.slice A3 (L.length+1) c3)) B gt bm (.slice A3 (L.length+1) c3) (putW L x by_)∧Row (w3.setCell ⟨gt,0,none⟩ (.slice A3 (L.length+1) c3)) go 54 co (u32s os)∧(Value.slice A3 (L.length+1) c3).ownBlock≠some go∧Below B w (w3.setCell ⟨gt,0,none⟩ (.slice A3 (L.length+1) c3)) from by
     have hsz3:w2.heap.size≤w3.heap.size:=Nat.le_trans (by simp) hgrow3.size
     have hset:∀ q,q≠gt→(w3.setCell ⟨gt,0,none⟩ (.slice A3 (L.length+1) c3)).heap[q]? = w3.heap[q]? :=fun q hq=>Below.heap_setCell w3 ⟨gt,0,none⟩ (.slice A3 (L.length+1) c3) q hq
     have hmg:bm≠gt:=HMP.out.ne_blk HBX.out
     have hown3':w3.ownsRow B 54 1 (.slice A3 (L.length+1) c3) (L++[(x,by_)]).length (u32s (metO (L++[(x,by_)]))):=by
      rw [metO_snoc,u32s_app,List.length_append]
      exact hown3
     rw [HN.out]
     refine⟨⟨HBX3.out.set_ 0 (.slice A3 (L.length+1) c3),own_keep hown3' (fun q hq=>hset q (fun e=>own_ne_blk hown3' HBX3.out (by decide) (e ▸ hq))),?_,HGM.out.1,HGM.out.2,fun y hy=>?_⟩,?_,?_,?_⟩
     ·rw [byOf_put HIN.out,metB_put,List.length_append]
      exact HMP.out.same ((hset bm hmg).trans (HG3.out bm HMP.out.lt HNS.out.2))
     ·rw [metO_snoc] at hy
      rcases List.mem_append.1 hy with hy | hy
      ·exact HMB.out y hy
      ·rcases List.mem_singleton.1 hy with rfl
       exact hx32
     ·exact HO2.out.same ((hset go (HO2.out.ne_blk HBX.out (by decide))).trans (HG3.out go HO2.out.lt HNE.out))
     ·intro e
      rcases hat3 with h | h
      ·exact HNE.out (h ▸ e)
      ·rw [h] at e
       injection e with e
       have:=HO2.out.lt
       simp at e
       omega
     ·refine HB2.out.trans ⟨hgrow3.os,hgrow3.tape,hgrow3.output,?_,fun q hq=>?_⟩
      ·simp [World.setCell]; exact hsz3
      ·exact (hset q (by have:=HGM.out.1; omega)).trans (HG3.out q (by omega) (fun e=>by have:=(HOW.out.lt q e).1; omega)))
    clear hown3 hgrow3 hat3 HG3 HBX3
    go_wp2_with fail
    go_roundw
    case rel=>exact⟨k+1,(.slice A3 (L.length+1) c3),by go_num,by omega,by rw [HS.out]; exact HE.out.1,HE.out.2.1,HE.out.2.2.1,HE.out.2.2.2⟩
    case measure=>simp [intOf]; omega
  ·obtain rfl:k=os.length:=by omega
   have HE:=Lib.hid HT.out
   rw [List.take_length] at HE
   clear HT
   go_wp2_with fail
   refine bodyPost_end (v:=.tuple #[]) (by simp [results,Tryz.results260,go_sem]) rfl ?_
   exact⟨rfl,v',HE.out,HB.out⟩
end
section
open Go.RowKit
attribute [local go_sem] Oper.semAt_some
def WalkP (h:HM) (fr:List Nat) (w:World) (e:Ending) (w':World):Prop:=
 ∃ gt bm v,e = .returned (.pointer (some ⟨gt,0,none⟩))∧TrailAt w' w.heap.size gt bm v (walkM (heldM h) fr)∧Below w.heap.size w w'
theorem metO_getD (L:Wk) (i:Nat):(metO L).getD i 0=(L.getD i (0,0)).1:=by
 unfold metO
 rw [List.getD_eq_getElem?_getD,List.getD_eq_getElem?_getD,List.getElem?_map]
 cases L[i]? <;> rfl
theorem metO_mem {L:Wk} {i:Nat} (hi:i<L.length):(metO L).getD i 0∈metO L:=by
 rw [List.getD_eq_getElem?_getD,List.getElem?_eq_getElem (by rw [metO_len]; exact hi)]
 exact List.getElem_mem _
theorem putsW_isB {h:HM} {L:Wk} {os:List Nat} {b:Int} (hL:∀ o∈metO L,h.isB o=true) (ho:∀ x∈os,kindM x=2→h.isB x=true):∀ o∈metO (putsW L os b),h.isB o=true:=by
 intro o hm
 rcases putsW_mem.1 hm with h1 | ⟨h1,h2⟩
 ·exact hL o h1
 ·exact ho o h1 h2
theorem nam_len {h:HM} {l:List Ob} (G:h.Good l) {o:Nat} (hi:h.isB o=true) (held:Bool):(namM h o held).length≤65536:=by
 have h1:=fields_len G hi
 have h2:=hd_size G hi
 unfold namM heldM namesM
 cases held <;> simp only [List.length_cons,if_true,Bool.false_eq_true,if_false] <;> split <;> (try simp only [List.length_nil]) <;> omega
theorem putsW_filter (L:Wk) (os:List Nat) (b:Int):putsW L (os.filter k2) b=putsW L os b:=putsW_only L os b
section
variable {w:World} {p:HP} {h:HM} {l:List Ob}
set_option maxRecDepth 100000 in
set_option maxHeartbeats 4000000 in
theorem walk_any (H:HAt w p h) (G:h.Good l) (hs:Spares w) {go co:Nat} {os:List Nat} (hO:Row w go 54 co (u32s os)) (hv:∀ x∈os,h.isB x=true) (hol:os.length≤1048576):
 Calls Tryz.prog 218 #[ptr p.g,.slice (some ⟨go,0,none⟩) os.length co] w (WalkP h os w):=by
 have HH:=Lib.hid (fun (w':World) (hb:Below w.heap.size w w')=>H.below hb)
 have HS:=Lib.hid (fun (w':World) (hb:Below w.heap.size w w')=>hs.below hb)
 have HG:=Lib.hid G
 have HV:=Lib.hid hv
 have hb1:Below w.heap.size w ((w.alloc (.map #[] 0)).alloc (.cells #[.slice none 0 0,.map (some w.heap.size)] 323)):=((Below.refl _ w).alloc (Nat.le_refl _) _).alloc (by simp) _
 have hbx:=Blk.new (w.alloc (.map #[] 0)) 323 #[.slice none 0 0,.map (some w.heap.size)]
 rw [World.size_alloc] at hbx
 have T0:TrailAt ((w.alloc (.map #[] 0)).alloc (.cells #[.slice none 0 0,.map (some w.heap.size)] 323)) w.heap.size (w.heap.size+1) w.heap.size (.slice none 0 0) []:=
  ⟨hbx,⟨rfl,.inl ⟨rfl,rfl⟩⟩,(MapE.made w 54 3 .i64).same (Below.heap_alloc _ _ _ (by simp)),by omega,Nat.le_refl _,fun x hx=>by simp [metO] at hx⟩
 have HP1:=Lib.hid (tput_any T0 (hO.below hb1) (fun e=>by cases e) hb1.size (fun x hx=>isB_u32 G (hv x hx)) (fun x hx=>isB_kind (hv x hx)) (-1) (by decide) (by simp; omega))
 have HB1:=Lib.hid hb1
 clear hb1 hbx T0 H G hs hv hO
 unfold ptr at HH ⊢
 have hmm:=@run_makeMap Tryz.prog
 go_enter Tryz.func218,Tryz.ntmps218
 go_wp2_with fail
 refine wp_scope_jumps 0 (fun a' w'=>∃ (i:Nat) (L:Wk) (v:Value),GoW (heldM h) os i L∧TrailAt w' w.heap.size (w.heap.size+1) w.heap.size v L∧(∀ o∈metO L,h.isB o=true)∧Below w.heap.size w w'∧∃ u7 u8 u9 u10 u11 u12 u13 u14 u15 u16 u17 u18 u19 u20 u21 u22 u23 u24 u25 u26 u27 u28 u29 u30 u31 u32 u33 u34,a'={ tmps:=#[.pointer (some ⟨p.g,0,none⟩),.slice (some ⟨go,0,none⟩) os.length co,undef,undef,.pointer none,.pointer (some ⟨w.heap.size+1,0,none⟩),.int .i64 (i:Int),u7,u8,u9,u10,u11,u12,u13,u14,u15,u16,u17,u18,u19,u20,u21,u22,u23,u24,u25,u26,u27,u28,u29,u30,u31,u32,u33,u34],defers:=[] }) (fun a' _=>4194304-(intOf (a'.tmps.getD 6 undef)).toNat) rfl ?_ ?_
 ·go_wp2_with fail
  refine HP1.out.mono ?_
  rintro e w2 ⟨rfl,v2,h21,h22⟩
  have HT:=Lib.hid h21
  have HB:=Lib.hid (HB1.out.trans h22)
  have HGO:=Lib.hid (GoW.start (heldM h) os)
  have HIS:=Lib.hid (show ∀ x∈metO (putsW [] os (-1)),h.isB x=true from putsW_isB (fun o ho=>by simp [metO] at ho) (fun x hx _=>HV.out x hx))
  clear h21 h22 HP1 HB1
  generalize putsW [] os (-1)=L at *
  generalize v2=v at *
  go_wp2_with fail
  go_step3
  have HLN:=Lib.hid (wk_len HG.out HGO.out.nodup HIS.out)
  by_cases hi:0<L.length
  ·obtain⟨gv,cv,hvv,hrv,_,hgv⟩:=Row.of_any HT.out.own (by omega)
   subst hvv
   have hcl:=hrv.cell (u32s_get (l:=metO L) (i:=0) (by rw [metO_len]; exact hi))
   have hgl:=hrv.lt
   have c0:=HT.out.box.cell 0
   have HOI:=Lib.hid (HIS.out _ (metO_mem hi))
   have HNX:=Lib.hid (HGO.out.next hi HLN.out)
   rw [← metO_getD] at HNX
   have HIN:=Lib.hid hi
   have hLl:=HLN.out
   generalize (metO L).getD 0 0=o at *
   have HNM:=Lib.hid (named_any (HH.out w2 HB.out) HG.out (HS.out w2 HB.out) HOI.out true)
   have hnl:=nam_len HG.out HOI.out true
   have hsz:=HB.out.size
   unfold ptr at HNM
   clear hrv hi
   go_wp2_with fail
   refine HNM.out.mono ?_
   rintro e w5 ⟨g5,c5,rfl,h51,h52,h53⟩
   have h32:=nam_32 HG.out HOI.out true
   have HPT:=Lib.hid (tput_any (HT.out.below h53) h52 (fun e=>by have:gv=g5:=Option.some.inj e; omega) (Nat.le_trans hsz h53.size) (fun x hx=>h32 x (List.mem_filter.1 hx).1) (fun x hx=>by have:=(List.mem_filter.1 hx).2; unfold k2 at this; simpa using this) 0 (by decide) (by have:=List.length_filter_le k2 (namM h o true); omega))
   rw [putsW_filter] at HPT
   have HB5:=Lib.hid (HB.out.trans (h53.mono hsz))
   clear h51 h52 h53 h32 HNM hcl c0 HT HB
   go_wp2_with fail
   refine HPT.out.mono ?_
   rintro e w6 ⟨rfl,v6,h61,h62⟩
   have H61:=Lib.hid (show TrailAt w6 w.heap.size (w.heap.size+1) w.heap.size v6 (putsW L (heldM h o) 0) from h61)
   have HB6:=Lib.hid (HB5.out.trans h62)
   have HIS6:=Lib.hid (show ∀ x∈metO (putsW L (heldM h o) 0),h.isB x=true from putsW_isB HIS.out (fun x hx hk=>names_isB HG.out HOI.out (held_names hx) hk))
   clear h61 h62 HPT HB5 HIS hgl hgv
   go_wp2_with fail
   go_step3
   refine⟨rfl,1,_,v6,HNX.out,H61.out,HIS6.out,HB6.out,_,_,_,_,_,_,_,_,_,_,_,_,_,_,_,_,_,_,_,_,_,_,_,_,_,_,_,_,rfl⟩
  ·have HD:=Lib.hid (HGO.out.done hi HLN.out)
   obtain⟨Av,cv,hvv⟩:=own_val HT.out.own
   subst hvv
   have c0:=HT.out.box.cell 0
   go_wp2_with fail
   try simp only [Exit.jump]
   go_ret
   exact⟨_,_,_,rfl,by rw [HD.out]; exact HT.out,HB.out⟩
 ·rintro a' wr ⟨i,L,v,hgo,ht,his,hb,u7,u8,u9,u10,u11,u12,u13,u14,u15,u16,u17,u18,u19,u20,u21,u22,u23,u24,u25,u26,u27,u28,u29,u30,u31,u32,u33,u34,rfl⟩
  have HT:=Lib.hid ht
  have HB:=Lib.hid hb
  have HGO:=Lib.hid hgo
  have HIS:=Lib.hid his
  clear hgo ht his hb HP1 HB1 HV
  have HLN:=Lib.hid (wk_len HG.out HGO.out.nodup HIS.out)
  by_cases hi:i<L.length
  ·obtain⟨gv,cv,hvv,hrv,_,hgv⟩:=Row.of_any HT.out.own (by omega)
   subst hvv
   have hcl:=hrv.cell (u32s_get (l:=metO L) (i:=i) (by rw [metO_len]; exact hi))
   have hgl:=hrv.lt
   have c0:=HT.out.box.cell 0
   have HOI:=Lib.hid (HIS.out _ (metO_mem hi))
   have HNX:=Lib.hid (HGO.out.next hi HLN.out)
   rw [← metO_getD] at HNX
   have HIN:=Lib.hid hi
   have hLl:=HLN.out
   generalize (metO L).getD i 0=o at *
   have HNM:=Lib.hid (named_any (HH.out wr HB.out) HG.out (HS.out wr HB.out) HOI.out true)
   have hnl:=nam_len HG.out HOI.out true
   have hsz:=HB.out.size
   unfold ptr at HNM
   clear hrv hi
   go_wp2_with fail
   refine HNM.out.mono ?_
   rintro e w5 ⟨g5,c5,rfl,h51,h52,h53⟩
   have h32:=nam_32 HG.out HOI.out true
   have HPT:=Lib.hid (tput_any (HT.out.below h53) h52 (fun e=>by have:gv=g5:=Option.some.inj e; omega) (Nat.le_trans hsz h53.size) (fun x hx=>h32 x (List.mem_filter.1 hx).1) (fun x hx=>by have:=(List.mem_filter.1 hx).2; unfold k2 at this; simpa using this) (i:Int) (wf_i64 (by omega)) (by have:=List.length_filter_le k2 (namM h o true); omega))
   rw [putsW_filter] at HPT
   have HB5:=Lib.hid (HB.out.trans (h53.mono hsz))
   clear h51 h52 h53 h32 HNM hcl c0 HT HB
   go_wp2_with fail
   refine HPT.out.mono ?_
   rintro e w6 ⟨rfl,v6,h61,h62⟩
   have H61:=Lib.hid (show TrailAt w6 w.heap.size (w.heap.size+1) w.heap.size v6 (putsW L (heldM h o) (i:Int)) from h61)
   have HB6:=Lib.hid (HB5.out.trans h62)
   have HIS6:=Lib.hid (show ∀ x∈metO (putsW L (heldM h o) (i:Int)),h.isB x=true from putsW_isB HIS.out (fun x hx hk=>names_isB HG.out HOI.out (held_names hx) hk))
   clear h61 h62 HPT HB5 HIS hgl hgv
   go_wp2_with fail
   go_step3
   refine⟨rfl,⟨i+1,_,v6,HNX.out,H61.out,HIS6.out,HB6.out,_,_,_,_,_,_,_,_,_,_,_,_,_,_,_,_,_,_,_,_,_,_,_,_,_,_,_,_,rfl⟩,?_⟩
   have h1:=HIN.out
   have h2:=HLN.out
   show 4194304-(((i+1:Nat):Int)).toNat<4194304-((i:Nat):Int).toNat
   omega
  ·have HD:=Lib.hid (HGO.out.done hi HLN.out)
   obtain⟨Av,cv,hvv⟩:=own_val HT.out.own
   subst hvv
   have c0:=HT.out.box.cell 0
   go_wp2_with fail
   try simp only [Exit.jump]
   go_ret
   exact⟨_,_,_,rfl,by rw [HD.out]; exact HT.out,HB.out⟩
end
end
section
open Go.RowKit
attribute [local go_sem] Oper.semAt_some
end
end Go.Proofs.YtlkahgagmfhdaaaGreatDoor
