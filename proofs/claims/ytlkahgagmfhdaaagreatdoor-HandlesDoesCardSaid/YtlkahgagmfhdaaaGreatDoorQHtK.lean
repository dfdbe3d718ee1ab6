import Derived.Test.YtlkahgagmfhdaaaGreatDoorQHdW
import Derived.Test.YtlkahgagmfhdaaaGreatDoorQKRCol
import Derived.Test.YtlkahgagmfhdaaaGreatDoorQAll
import Derived.Test.YtlkahgagmfhdaaaGreatDoorQHmP
import Derived.Test.YtlkahgagmfhdaaaGreatDoorQHdO
import Derived.Test.YtlkahgagmfhdaaaGreatDoorQKCol
set_option linter.unusedVariables false
set_option linter.unusedSimpArgs false
set_option linter.unusedSectionVars false
namespace Go.Proofs.YtlkahgagmfhdaaaGreatDoor
section
open Go.RowKit
attribute [local go_sem] Oper.semAt_some
theorem size_drewK (w:World):w.drew.heap.size=w.heap.size:=rfl
theorem size_setK (w:World) (p:Addr) (v:Value):(w.setCell p v).heap.size=w.heap.size:=by simp [World.setCell]
section
variable {w:World} {q:HP} {h:HM} {l:List Ob}
def DocColP (h:HM) (l:List Ob) (w w1:World) (e:Ending) (w2:World):Prop:=∃ Aw cw Ar cr x0 x1 x2 x3 x4,
 e = .returned (.tuple #[.agg #[.slice Aw (colH h l).words.length cw,.slice Ar (colH h l).roots.length cr],.agg #[.int .i64 x0,.int .i64 x1,.int .i64 x2,.int .i64 x3,.int .i64 x4]])∧Hid (w2.ownsRow w1.heap.size 32 1 (.slice Aw (colH h l).words.length cw) (colH h l).words.length (u32s (colH h l).words))∧Hid (w2.ownsRow w1.heap.size 54 1 (.slice Ar (colH h l).roots.length cr) (colH h l).roots.length (u32s (colH h l).roots))∧Below w1.heap.size w1 w2∧Below w.heap.size w w2∧w.heap.size≤w1.heap.size
theorem DocColP.below {w1 w2:World} {e:Ending} (H:DocColP h l w w1 e w2):Below w1.heap.size w1 w2:=by
 obtain⟨_,_,_,_,_,_,_,_,_,-,-,-,hb,-,-⟩:=H
 exact hb
theorem doc_col (R:RAt w q h) (G:h.Good l) {w1:World} (hb:Below w.heap.size w w1):
 Calls Tryz.prog 185 #[.agg #[.slice (some ⟨q.gw,0,none⟩) h.words.length q.cw,.slice (some ⟨q.gr,0,none⟩) h.roots.length q.cr]] w1 (DocColP h l w w1):=by
 have R1:=R.below hb
 have hl1:h.words.length=(u32s h.words).length:=(u32s_len _).symm
 refine (rcol_any (A:=some ⟨q.gw,0,none⟩) (A':=some ⟨q.gr,0,none⟩) (c:=q.cw) (c':=q.cr) (n:=h.words.length) (n':=h.roots.length) G ?_ ?_ ?_).mono ?_
 ·have:=R1.2.1.reads (R1.lt (.inr (.inl rfl)))
  rw [u32s_len] at this
  exact this
 ·have:=R1.2.2.2.reads (R1.lt (.inr (.inr (.inr rfl))))
  rw [u32s_len] at this
  exact this
 ·have:=R.2.1.len_le
  rw [u32s_len] at this
  exact this
 ·rintro e w2 ⟨vw,vr,rfl,ho,hr,hb2⟩
  obtain⟨Aw,cw,hvw⟩:=own_val ho
  obtain⟨Ar,cr,hvr⟩:=own_val hr
  subst hvw hvr
  obtain⟨x0,x1,x2,x3,x4,hcv⟩:=colV_ints h l
  exact⟨Aw,cw,Ar,cr,x0,x1,x2,x3,x4,by rw [hcv],Lib.hid ho,Lib.hid hr,hb2,below_top hb hb2,hb.size⟩
def CollP (h:HM) (l:List Ob) (w:World) (e:Ending) (w':World):Prop:=
 ∃ x:HP,e = .returned (ptr x.g)∧RAt w' x (colH h l)∧(∀ j,x.has j→w.heap.size≤j)∧Below w.heap.size w w'
set_option maxRecDepth 100000 in
set_option maxHeartbeats 8000000 in
theorem collected_any (R:RAt w q h) (G:h.Good l):Calls Tryz.prog 122 #[ptr q.g] w (CollP h l w):=by
 have HR:=Lib.hid R
 have HG:=Lib.hid G
 have hrl:=G.fit.roots
 have c1:=R.c1
 have c2:=R.c2
 have HC:=Lib.hid (fun (w1:World) (hb:Below w.heap.size w w1)=>doc_col R G hb)
 have hb0:=Below.refl w.heap.size w
 have hgl:=R.1.lt
 have KC:=Lib.hid (show ∀ W',Below w.heap.size w W'→W'.cell? ⟨q.g,1,none⟩=some (.slice (some ⟨q.gw,0,none⟩) h.words.length q.cw)∧W'.cell? ⟨q.g,2,none⟩=some (.slice (some ⟨q.gr,0,none⟩) h.roots.length q.cr) from fun W' hb=>
  ⟨(hb.cell (World.block_lt_of_cell? _ _ c1)).trans c1,(hb.cell (World.block_lt_of_cell? _ _ c2)).trans c2⟩)
 have HC0:=Lib.hid (show Calls Tryz.prog 185 #[.agg #[.slice (some ⟨q.gw,0,none⟩) h.words.length q.cw,.slice (some ⟨q.gr,0,none⟩) h.roots.length q.cr]] (w).drew (fun e w2=>DocColP h l w (w).drew e w2) from (HC.out _ (Below.drew (hb0))).mono fun _ w2 hh=>hh)
 have HC1:=Lib.hid (show Calls Tryz.prog 185 #[.agg #[.slice (some ⟨q.gw,0,none⟩) h.words.length q.cw,.slice (some ⟨q.gr,0,none⟩) h.roots.length q.cr]] (w.alloc (.cells #[.slice none 0 0,.slice none 0 0] 280)).drew (fun e w2=>DocColP h l w (w.alloc (.cells #[.slice none 0 0,.slice none 0 0] 280)).drew e w2∧Blk w2 w.heap.size 280 #[.slice none 0 0,.slice none 0 0]) from (HC.out _ (Below.drew (below_alloc1 (hb0)))).mono fun _ w2 hh=>by have hb:=hh.below; exact⟨hh,(Blk.new w _ _).drew.below hb (by simp [World.drew])⟩)
 have HC2:=Lib.hid (show Calls Tryz.prog 185 #[.agg #[.slice (some ⟨q.gw,0,none⟩) h.words.length q.cw,.slice (some ⟨q.gr,0,none⟩) h.roots.length q.cr]] (w.alloc (.cells #[.int .i64 0,.int .i64 0,.int .i64 0,.int .i64 0,.int .i64 0] 62)).drew (fun e w2=>DocColP h l w (w.alloc (.cells #[.int .i64 0,.int .i64 0,.int .i64 0,.int .i64 0,.int .i64 0] 62)).drew e w2∧Blk w2 w.heap.size 62 #[.int .i64 0,.int .i64 0,.int .i64 0,.int .i64 0,.int .i64 0]) from (HC.out _ (Below.drew (below_alloc1 (hb0)))).mono fun _ w2 hh=>by have hb:=hh.below; exact⟨hh,(Blk.new w _ _).drew.below hb (by simp [World.drew])⟩)
 have HC3:=Lib.hid (show Calls Tryz.prog 185 #[.agg #[.slice (some ⟨q.gw,0,none⟩) h.words.length q.cw,.slice (some ⟨q.gr,0,none⟩) h.roots.length q.cr]] ((w.alloc (.cells #[.slice none 0 0,.slice none 0 0] 280)).alloc (.cells #[.int .i64 0,.int .i64 0,.int .i64 0,.int .i64 0,.int .i64 0] 62)).drew (fun e w2=>DocColP h l w ((w.alloc (.cells #[.slice none 0 0,.slice none 0 0] 280)).alloc (.cells #[.int .i64 0,.int .i64 0,.int .i64 0,.int .i64 0,.int .i64 0] 62)).drew e w2∧Blk w2 w.heap.size 280 #[.slice none 0 0,.slice none 0 0]∧Blk w2 (w.heap.size+1) 62 #[.int .i64 0,.int .i64 0,.int .i64 0,.int .i64 0,.int .i64 0]) from (HC.out _ (Below.drew (below_alloc1 (below_alloc1 (hb0))))).mono fun _ w2 hh=>by have hb:=hh.below; exact⟨hh,((Blk.new w _ _).alloc _).drew.below hb (by simp [World.drew]; omega),(show Blk _ (w.heap.size+1) _ _ from by have:=Blk.new (w.alloc (.cells #[.slice none 0 0,.slice none 0 0] 280)) 62 #[.int .i64 0,.int .i64 0,.int .i64 0,.int .i64 0,.int .i64 0]; rw [World.size_alloc] at this; exact this).drew.below hb (by simp [World.drew])⟩)
 have HC4:=Lib.hid (show Calls Tryz.prog 185 #[.agg #[.slice (some ⟨q.gw,0,none⟩) h.words.length q.cw,.slice (some ⟨q.gr,0,none⟩) h.roots.length q.cr]] ((w.alloc (.cells #[.int .i64 0,.int .i64 0,.int .i64 0,.int .i64 0,.int .i64 0] 62)).alloc (.cells #[.slice none 0 0,.slice none 0 0] 280)).drew (fun e w2=>DocColP h l w ((w.alloc (.cells #[.int .i64 0,.int .i64 0,.int .i64 0,.int .i64 0,.int .i64 0] 62)).alloc (.cells #[.slice none 0 0,.slice none 0 0] 280)).drew e w2∧Blk w2 w.heap.size 62 #[.int .i64 0,.int .i64 0,.int .i64 0,.int .i64 0,.int .i64 0]∧Blk w2 (w.heap.size+1) 280 #[.slice none 0 0,.slice none 0 0]) from (HC.out _ (Below.drew (below_alloc1 (below_alloc1 (hb0))))).mono fun _ w2 hh=>by have hb:=hh.below; exact⟨hh,((Blk.new w _ _).alloc _).drew.below hb (by simp [World.drew]; omega),(show Blk _ (w.heap.size+1) _ _ from by have:=Blk.new (w.alloc (.cells #[.int .i64 0,.int .i64 0,.int .i64 0,.int .i64 0,.int .i64 0] 62)) 280 #[.slice none 0 0,.slice none 0 0]; rw [World.size_alloc] at this; exact this).drew.below hb (by simp [World.drew])⟩)
 clear R G hrl HC
 unfold ptr
 go_enter Tryz.func122,Tryz.ntmps122
 go_upto_region 1 with fail
 go_cut [3] (fun v wx=>∃ g Aw cw Ar cr,v=ptr g∧wx.cell? ⟨g,0,none⟩=some (.slice Aw (colH h l).words.length cw)∧wx.cell? ⟨g,1,none⟩=some (.slice Ar (colH h l).roots.length cr)∧Hid (wx.ownsRow w.heap.size 32 1 (.slice Aw (colH h l).words.length cw) (colH h l).words.length (u32s (colH h l).words))∧Hid (wx.ownsRow w.heap.size 54 1 (.slice Ar (colH h l).roots.length cr) (colH h l).roots.length (u32s (colH h l).roots))∧Below w.heap.size w wx)
 case first=>
  go_region_held3 (fun w'=>w'.cell? ⟨q.g,1,none⟩=some (.slice (some ⟨q.gw,0,none⟩) h.words.length q.cw)∧w'.cell? ⟨q.g,2,none⟩=some (.slice (some ⟨q.gr,0,none⟩) h.roots.length q.cr))
   (with_reducible refine KC.out _ ?_; (repeat (first | with_reducible assumption | with_reducible apply Below.drew | with_reducible apply below_alloc1 | ((with_reducible refine Below.setCell ?_ ?_ _); rotate_left; (first | exact Nat.le_refl _ | exact Nat.le_succ _ | (simp; done) | (simp; omega) | omega)))))
   (first
     | (go_at_call 185; (with_reducible refine HC0.out.mono ?_); rintro e w2 ⟨Aw,cw,Ar,cr,x0,x1,x2,x3,x4,rfl,hw2,hr2,hk0,hk,hs1⟩)
     | (go_at_call 185; (with_reducible refine HC1.out.mono ?_); rintro e w2 ⟨⟨Aw,cw,Ar,cr,x0,x1,x2,x3,x4,rfl,hw2,hr2,hk0,hk,hs1⟩,hB0⟩; obtain⟨a0,a1⟩:=cells2K hB0; have az:=hB0.fz; have al:=hB0.lt)
     | (go_at_call 185; (with_reducible refine HC2.out.mono ?_); rintro e w2 ⟨⟨Aw,cw,Ar,cr,x0,x1,x2,x3,x4,rfl,hw2,hr2,hk0,hk,hs1⟩,hB0⟩; obtain⟨b0,b1,b2,b3,b4⟩:=hB0.cells5; have bz:=hB0.fz; have bl:=hB0.lt)
     | (go_at_call 185; (with_reducible refine HC3.out.mono ?_); rintro e w2 ⟨⟨Aw,cw,Ar,cr,x0,x1,x2,x3,x4,rfl,hw2,hr2,hk0,hk,hs1⟩,hB0,hB1⟩; obtain⟨a0,a1⟩:=cells2K hB0; have az:=hB0.fz; have al:=hB0.lt; obtain⟨b0,b1,b2,b3,b4⟩:=hB1.cells5; have bz:=hB1.fz; have bl:=hB1.lt)
     | (go_at_call 185; (with_reducible refine HC4.out.mono ?_); rintro e w2 ⟨⟨Aw,cw,Ar,cr,x0,x1,x2,x3,x4,rfl,hw2,hr2,hk0,hk,hs1⟩,hB0,hB1⟩; obtain⟨b0,b1,b2,b3,b4⟩:=hB0.cells5; have bz:=hB0.fz; have bl:=hB0.lt; obtain⟨a0,a1⟩:=cells2K hB1; have az:=hB1.fz; have al:=hB1.lt))
  all_goals go_wp2_with fail
  all_goals go_meet
  all_goals clear HC0 HC1 HC2 HC3 HC4 KC
  all_goals
   have hlw:=fun q hq=>hw2.out.lt q hq
   have hlr:=fun q hq=>hr2.out.lt q hq
   simp only [size_drewK,World.size_alloc] at hlw hlr hs1
   refine⟨_,_,_,_,_,rfl,?_,?_,Lib.hid (own_base (own_keep hw2.out fun q hq=>?_) (by simp only [size_drewK,World.size_alloc]; omega)),Lib.hid (own_base (own_keep hr2.out fun q hq=>?_) (by simp only [size_drewK,World.size_alloc]; omega)),by (repeat (first | with_reducible assumption | with_reducible apply Below.drew | with_reducible apply below_alloc1 | ((with_reducible refine Below.setCell ?_ ?_ _); rotate_left; (first | exact Nat.le_refl _ | exact Nat.le_succ _ | (simp; done) | (simp; omega) | omega))))⟩
   ·go_simp
   ·go_simp
   ·have:=hlw q hq
    (repeat (first | with_reducible rfl | (rw [Below.heap_setCell]; rotate_left; (first | (dsimp only; omega) | omega)) | (rw [Below.heap_alloc]; rotate_left; (show _<_; (try simp only [size_setK,World.size_alloc]); omega))))
   ·have:=hlr q hq
    (repeat (first | with_reducible rfl | (rw [Below.heap_setCell]; rotate_left; (first | (dsimp only; omega) | omega)) | (rw [Below.heap_alloc]; rotate_left; (show _<_; (try simp only [size_setK,World.size_alloc]); omega))))
 case rest=>
  obtain⟨g,Aw,cw,Ar,cr,rfl,s0,s1,HO1,HO2,hbx⟩:=hcut
  clear HC0 HC1 HC2 HC3 HC4 KC c1 c2 hb0
  have Rx:=HR.out.below hbx
  have c0:=Rx.c0
  have c3:=Rx.c3
  have G:=HG.out
  have G':=col_good G
  have hw:=own_readsV (own_below HO1.out (below_drew (Below.refl _ _)))
  have hr:=own_readsV (own_below HO2.out (below_drew (Below.refl _ _)))
  have HL:=Lib.hid ((rLoad_any (w:=wc.drew) h.size G.fit.lo G.fit.hi Aw (colH h l).words.length cw _ hw.2 hw.1 G'.fit.w32 Ar (colH h l).roots.length cr _ hr.2 hr.1 G'.fit.r32 h.last G.fit.l32).mono fun e w2 (hh:RLoadP h.size (colH h l).words (colH h l).roots h.last wc.drew e w2)=>show Below wc.heap.size wc w2∧∃ x:HP,e = .returned (.tuple #[.pointer (some ⟨x.g,0,none⟩),.int .i64 0])∧Hid (RAt w2 x (colH h l)∧∀ j,x.has j→wc.heap.size≤j) from by
   obtain⟨hb,hh⟩:=hh
   refine⟨below_top (below_drew (Below.refl _ _)) hb,?_⟩
   have h0:loadE h.size (colH h l).words (colH h l).roots h.last=0:=(G'.load_self (h0:=h) rfl).1
   rcases hh with ⟨h1,-⟩ | ⟨-,x,he,hR,hn⟩
   ·exact absurd h0 h1
   ·exact ⟨x,he,Lib.hid ⟨hR,hn⟩⟩)
  have hgw:q.g<wc.heap.size:=Rx.1.lt
  clear G G' hw hr Rx
  have KC:=Lib.hid (show ∀ W',Below wc.heap.size wc W'→W'.cell? ⟨q.g,0,none⟩=some (.int .i64 h.size)∧W'.cell? ⟨q.g,3,none⟩=some (.int .u32 h.last)∧W'.cell? ⟨g,0,none⟩=some (.slice Aw (colH h l).words.length cw)∧W'.cell? ⟨g,1,none⟩=some (.slice Ar (colH h l).roots.length cr) from fun W' hb=>
   ⟨(hb.cell (World.block_lt_of_cell? _ _ c0)).trans c0,(hb.cell (World.block_lt_of_cell? _ _ c3)).trans c3,(hb.cell (World.block_lt_of_cell? _ _ s0)).trans s0,(hb.cell (World.block_lt_of_cell? _ _ s1)).trans s1⟩)
  have hb0:=Below.refl wc.heap.size wc
  unfold ptr
  go_upto_region 2 with fail
  go_region_held3 (fun w'=>w'.cell? ⟨q.g,0,none⟩=some (.int .i64 h.size)∧w'.cell? ⟨q.g,3,none⟩=some (.int .u32 h.last)∧w'.cell? ⟨g,0,none⟩=some (.slice Aw (colH h l).words.length cw)∧w'.cell? ⟨g,1,none⟩=some (.slice Ar (colH h l).roots.length cr))
   (first | with_reducible exact KC.out _ hb0 | with_reducible exact KC.out _ (Below.drew hb0) | with_reducible exact KC.out _ hk)
   ((go_at_call 66; (with_reducible refine HL.out.mono ?_); rintro e w2 ⟨hk,x,rfl,HX⟩))
  go_wp2_with fail
  go_ret
  exact⟨x,rfl,HX.out.1,fun j hj=>Nat.le_trans hbx.size (HX.out.2 j hj),below_top hbx hk⟩
end
end
section
open Go.RowKit
section
variable {t:TM} {h h':HM} {l l':List Ob}
abbrev BkM:=Nat→Option (Nat × Nat × Bool)
variable {m:BkM} {last:Nat}
end
end
section
open Go.RowKit
end
section
open Go.RowKit
attribute [local go_sem] Oper.semAt_some
theorem HT.collect {W w:World} {p:HP} {g gt:Nat} {h:HM} {t:TM} {l:List Ob} (T:HT W w p g gt h t) (G:h.Good l):Calls Tryz.prog 28 #[.pointer (some ⟨g,0,none⟩)] w fun e w'=>∃ p',e = .returned (colV h l)∧HT W w' p' g gt (colH h l) t∧Step p p' w w':=
 (T.live.collect G).mono fun e w' ⟨p',h1,L',s⟩=>⟨p',h1,⟨L',T.tab.same (s.block gt T.tab.lt T.apart),T.ok,T.new⟩,s⟩
end
end Go.Proofs.YtlkahgagmfhdaaaGreatDoor
