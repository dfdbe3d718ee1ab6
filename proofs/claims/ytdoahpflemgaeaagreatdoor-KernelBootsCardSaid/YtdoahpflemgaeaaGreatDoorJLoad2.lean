import Derived.Test.YtdoahpflemgaeaaGreatDoorJClone
import Derived.Test.YtdoahpflemgaeaaGreatDoorJParse
import Derived.Test.YtdoahpflemgaeaaGreatDoorJAlloc
import Derived.Deep.RegionLaw
set_option linter.unusedVariables false
namespace Go.Proofs.YtdoahpflemgaeaaGreatDoor
section
open Go.RowKit
theorem make_bool (F:Nat) (hF:F≤1048576) (w:World):
 (Instr.makeSlice 76 (.int .i64 (F:Int)) (.int .i64 (F:Int))).run Tryz.prog w = .ok (.slice (some ⟨w.heap.size,0,none⟩) F F) (w.alloc (.cells (zcells (.bool false) F) 4)):=by
 obtain⟨i0,hi0,hz0,hz1,hz2⟩:=info_parts info_bool
 have:=run_make_rowN (P:=Tryz.prog) 76 4 i0 _ Tryz.underlying76 hi0 hz0 .i64 .i64 F F (Nat.le_refl _) (by rw [hz2]; omega) (by omega) w
 have e:madeCells (Value.bool false).cells (F*1)=zcells (.bool false) F:=by
  apply Array.ext
  ·simp [madeCells,zcells,Value.cells]
  ·intro i h1 h2
   simp [madeCells,zcells,Value.cells,Nat.mod_one]
 rw [this,hz1,e]
theorem falses_row (w:World) (F:Nat) (hF:F≤maxLen):Row (w.alloc (.cells (zcells (.bool false) F) 4)) w.heap.size 4 F (bools (List.replicate F false)):=
 ⟨zcells (.bool false) F,Blk.new w _ _,by simp [bools],hF,by simp [zcells],by simp [zcells,bools]⟩
def HasRow (W w:World) (e:TypeId) (xs:List Value):Option (Nat × Nat)→Prop
 | none=>True
 | some (g,c)=>W.heap.size≤g∧Row w g e c xs
def Acc (W:World) (ws rs:List Nat) (w:World) (a b c:Option (Nat × Nat)):Prop:=
 Below W.heap.size W w∧HasRow W w 37 (u32s ws) a∧HasRow W w 4 (bools (List.replicate ws.length false)) b∧HasRow W w 38 (u32s rs) c
section
variable {W w w':World} {ws rs:List Nat} {a b c:Option (Nat × Nat)}
theorem HasRow.below {e:TypeId} {xs:List Value} (h:HasRow W w e xs a) (hb:Below w.heap.size w w'):HasRow W w' e xs a:=by
 cases a with
 | none=>trivial
 | some x=>exact⟨h.1,h.2.below hb⟩
theorem Acc.start (W:World) (ws rs:List Nat):Acc W ws rs W.drew none none none:=⟨below_drew (Below.refl _ _),trivial,trivial,trivial⟩
theorem Acc.below (h:Acc W ws rs w a b c) (hb:Below w.heap.size w w'):Acc W ws rs w' a b c:=
 ⟨below_top h.1 hb,h.2.1.below hb,h.2.2.1.below hb,h.2.2.2.below hb⟩
theorem Acc.marks (h:Acc W ws rs w a none c) (hF:ws.length≤1048576):Acc W ws rs (w.alloc (.cells (zcells (.bool false) ws.length) 4)) a (some (w.heap.size,ws.length)) c:=by
 have h2:=h.below ((Below.refl _ _).alloc (Nat.le_refl _) (.cells (zcells (.bool false) ws.length) 4))
 exact⟨h2.1,h2.2.1,⟨h.1.size,falses_row w ws.length (by simp only [maxLen]; omega)⟩,h2.2.2.2⟩
end
def ClonedW (W:World) (ws rs:List Nat) (b c:Option (Nat × Nat)) (e:Ending) (w':World):Prop:=
 ∃ g cap,e = .returned (.slice (some ⟨g,0,none⟩) ws.length cap)∧Acc W ws rs w' (some (g,cap)) b c
def ClonedR (W:World) (ws rs:List Nat) (a b:Option (Nat × Nat)) (e:Ending) (w':World):Prop:=
 ∃ g cap,e = .returned (.slice (some ⟨g,0,none⟩) rs.length cap)∧Acc W ws rs w' a b (some (g,cap))
theorem acc_words {W w:World} {ws rs:List Nat} {b c:Option (Nat × Nat)} (h:Acc W ws rs w none b c) (ad:Addr) (n k:Nat) (hr:Reads W W.heap.size 1 (some ad) n (u32s ws)) (hn:0<n) (hm:n≤1048576):
 Calls Tryz.prog 81 #[.slice (some ad) n k] w (ClonedW W ws rs b c):=by
 have hl:ws.length=n:=by have:=hr.1; rw [u32s_len] at this; omega
 refine (cloneR_u32 ad n k ((hr.below h.1).more h.1.size) (one_u32s _) hn (by omega)).mono ?_
 rintro e w' ⟨g,cap,rfl,hrow,hge,hb⟩
 have h2:=h.below hb
 exact⟨g,cap,by rw [u32s_len],h2.1,⟨Nat.le_trans h.1.size hge,hrow⟩,h2.2.2.1,h2.2.2.2⟩
theorem acc_roots {W w:World} {ws rs:List Nat} {a b:Option (Nat × Nat)} (h:Acc W ws rs w a b none) (ad:Addr) (n k:Nat) (hr:Reads W W.heap.size 1 (some ad) n (u32s rs)) (hn:0<n) (hm:n≤1048576):
 Calls Tryz.prog 82 #[.slice (some ad) n k] w (ClonedR W ws rs a b):=by
 have hl:rs.length=n:=by have:=hr.1; rw [u32s_len] at this; omega
 refine (cloneR_oop ad n k ((hr.below h.1).more h.1.size) (one_u32s _) hn (by omega)).mono ?_
 rintro e w' ⟨g,cap,rfl,hrow,hge,hb⟩
 have h2:=h.below hb
 exact⟨g,cap,by rw [u32s_len],h2.1,h2.2.1,h2.2.2.1,⟨Nat.le_trans h.1.size hge,hrow⟩⟩
theorem Acc.heap {W w:World} {ws rs:List Nat} {g1 c1 g2 c2 g3 c3:Nat} (h:Acc W ws rs w (some (g1,c1)) (some (g2,c2)) (some (g3,c3))) (size last:Nat):
 HAt (w.alloc (.cells #[.slice (some ⟨g1,0,none⟩) ws.length c1,.slice (some ⟨g2,0,none⟩) ws.length c2,.slice (some ⟨g3,0,none⟩) rs.length c3,.int .i64 size,.int .u32 last] 78))
  ⟨w.heap.size,g1,c1,g2,c2,g3,c3⟩ ⟨size,ws,List.replicate ws.length false,rs,last⟩∧(∀ k,HP.has ⟨w.heap.size,g1,c1,g2,c2,g3,c3⟩ k→W.heap.size≤k):=by
 obtain⟨hb,⟨h1,r1⟩,⟨h2,r2⟩,⟨h3,r3⟩⟩:=h
 refine⟨⟨?_,r1.alloc _,r2.alloc _,r3.alloc _⟩,?_⟩
 ·have:=Blk.new w 78 #[.slice (some ⟨g1,0,none⟩) ws.length c1,.slice (some ⟨g2,0,none⟩) ws.length c2,.slice (some ⟨g3,0,none⟩) rs.length c3,.int .i64 size,.int .u32 last]
  simp only [List.length_replicate]
  exact this
 ·rintro k (rfl | rfl | rfl | rfl)
  ·exact hb.size
  ·exact h1
  ·exact h2
  ·exact h3
theorem Acc.close {W w:World} {ws rs:List Nat} {g1 c1 g2 c2 g3 c3 n m:Nat} (h:Acc W ws rs w (some (g1,c1)) (some (g2,c2)) (some (g3,c3))) (size last:Nat) (hn:ws.length=n) (hm:rs.length=m):
 ∃ p2:HP,Value.pointer (some ⟨w.heap.size,0,none⟩) = .pointer (some ⟨p2.g,0,none⟩)∧
   HAt (w.alloc (.cells #[.slice (some ⟨g1,0,none⟩) n c1,.slice (some ⟨g2,0,none⟩) n c2,.slice (some ⟨g3,0,none⟩) m c3,.int .i64 size,.int .u32 last] 78)) p2 ⟨size,ws,List.replicate n false,rs,last⟩∧
   (∀ k,p2.has k→W.heap.size≤k)∧
   Below W.heap.size W (w.alloc (.cells #[.slice (some ⟨g1,0,none⟩) n c1,.slice (some ⟨g2,0,none⟩) n c2,.slice (some ⟨g3,0,none⟩) m c3,.int .i64 size,.int .u32 last] 78)):=by
 subst hn hm
 obtain⟨h1,h2⟩:=h.heap size last
 exact⟨_,rfl,h1,h2,h.1.alloc h.1.size _⟩
theorem HAt.moved {W w:World} {p p2:HP} {h h2:HM} (H5:HAt w p h) (H4:HAt w p2 h2) (hb:Below W.heap.size W w) (hp:p.g<W.heap.size) (hnew:∀ k,p2.has k→W.heap.size≤k):
 HAt (((((w.setCell ⟨p.g,0,none⟩ (.slice (some ⟨p2.gw,0,none⟩) h2.words.length p2.cw)).setCell ⟨p.g,1,none⟩ (.slice (some ⟨p2.gs,0,none⟩) h2.starts.length p2.cs)).setCell ⟨p.g,2,none⟩ (.slice (some ⟨p2.gr,0,none⟩) h2.roots.length p2.cr)).setCell ⟨p.g,3,none⟩ (.int .i64 h2.size)).setCell ⟨p.g,4,none⟩ (.int .u32 h2.last))
  ⟨p.g,p2.gw,p2.cw,p2.gs,p2.cs,p2.gr,p2.cr⟩ h2∧
 Step p ⟨p.g,p2.gw,p2.cw,p2.gs,p2.cs,p2.gr,p2.cr⟩ W (((((w.setCell ⟨p.g,0,none⟩ (.slice (some ⟨p2.gw,0,none⟩) h2.words.length p2.cw)).setCell ⟨p.g,1,none⟩ (.slice (some ⟨p2.gs,0,none⟩) h2.starts.length p2.cs)).setCell ⟨p.g,2,none⟩ (.slice (some ⟨p2.gr,0,none⟩) h2.roots.length p2.cr)).setCell ⟨p.g,3,none⟩ (.int .i64 h2.size)).setCell ⟨p.g,4,none⟩ (.int .u32 h2.last)):=by
 have n1:p2.gw≠p.g:=fun e=>by have:=hnew _ (.inr (.inl rfl)); omega
 have n2:p2.gs≠p.g:=fun e=>by have:=hnew _ (.inr (.inr (.inl rfl))); omega
 have n3:p2.gr≠p.g:=fun e=>by have:=hnew _ (.inr (.inr (.inr rfl))); omega
 obtain⟨-,r1,r2,r3⟩:=H4
 refine⟨⟨H5.1.setAll5 _ _ _ _ _,((((r1.far n1 _).far n1 _).far n1 _).far n1 _).far n1 _,((((r2.far n2 _).far n2 _).far n2 _).far n2 _).far n2 _,((((r3.far n3 _).far n3 _).far n3 _).far n3 _).far n3 _⟩,?_⟩
 have s:=(((((Step.of_below (p:=p) hb).setCell (a:=⟨p.g,0,none⟩) (.inl (.inl rfl)) (.slice (some ⟨p2.gw,0,none⟩) h2.words.length p2.cw)).setCell (a:=⟨p.g,1,none⟩) (.inl (.inl rfl)) (.slice (some ⟨p2.gs,0,none⟩) h2.starts.length p2.cs)).setCell (a:=⟨p.g,2,none⟩) (.inl (.inl rfl)) (.slice (some ⟨p2.gr,0,none⟩) h2.roots.length p2.cr)).setCell (a:=⟨p.g,3,none⟩) (.inl (.inl rfl)) (.int .i64 h2.size)).setCell (a:=⟨p.g,4,none⟩) (.inl (.inl rfl)) (.int .u32 h2.last)
 refine⟨s.os,s.tape,s.output,s.size,s.block,rfl,?_⟩
 rintro k (hk | hk | hk | hk)
 ·exact .inl (.inl hk)
 ·exact .inr (hnew _ (.inr (.inl hk)))
 ·exact .inr (hnew _ (.inr (.inr (.inl hk))))
 ·exact .inr (hnew _ (.inr (.inr (.inr hk))))
noncomputable def loadE (size:Nat) (ws rs:List Nat) (last:Nat):Nat:=
 open Classical in if ws.length=0∨size<ws.length∨rs.length≠64 then 1 else if LoadOk size ws rs last then 0 else 20
noncomputable def HM.loadH (h:HM) (ws rs:List Nat) (last:Nat):HM:=if loadE h.size ws rs last=0 then HM.ofWords h.size ws rs last else h
section
variable {size:Nat} {ws rs:List Nat} {last:Nat}
theorem loadE_bad (h:ws.length=0∨size<ws.length∨rs.length≠64):loadE size ws rs last=1:=by unfold loadE; rw [if_pos h]
theorem loadE_no (h:¬ (ws.length=0∨size<ws.length∨rs.length≠64)) (hn:¬ LoadOk size ws rs last):loadE size ws rs last=20:=by unfold loadE; rw [if_neg h,if_neg hn]
theorem loadE_ok (h:¬ (ws.length=0∨size<ws.length∨rs.length≠64)) (hn:LoadOk size ws rs last):loadE size ws rs last=0:=by unfold loadE; rw [if_neg h,if_pos hn]
theorem not_loadOk_of_none (h:parseW ws=none):¬ LoadOk size ws rs last:=by rintro⟨l,h1,_⟩; rw [h] at h1; cases h1
theorem loadOk_iff {l:List Ob} (h:parseW ws=some l):LoadOk size ws rs last↔(HM.ofWords size ws rs last).Sound l:=by
 constructor
 ·rintro⟨l',h1,h2⟩
  rw [h] at h1
  cases h1
  exact h2
 ·exact fun s=>⟨l,h,s⟩
end
set_option maxRecDepth 100000 in
set_option maxHeartbeats 4000000 in
theorem Load_any {w:World} {p:HP} {h:HM} (H:HAt w p h) (f:h.Fit) (hs:Spares w) (hfresh:∀ k,w.heap.size≤k→k≠0∧k≠2)
 (A:Option Addr) (n c:Nat) (ws:List Nat) (hn:n≤9223372036854775807) (hr:Reads w w.heap.size 1 A n (u32s ws)) (h32:∀ x∈ws,x<4294967296)
 (A':Option Addr) (n' c':Nat) (rs:List Nat) (hn':n'≤9223372036854775807) (hr':Reads w w.heap.size 1 A' n' (u32s rs)) (h32':∀ x∈rs,x<4294967296) (last:Nat) (hl:last<4294967296):
 Calls Tryz.prog 115 #[ptr p.g,.slice A n c,.slice A' n' c',.int .u32 last] w (Made p (h.loadH ws rs last) (.int .i64 (loadE h.size ws rs last:Nat)) w):=by
 have hm:=Lib.hid (made_any H (by have:=f.lo; omega) f.hi)
 have hlw:ws.length=n:=by have:=hr.1; rw [u32s_len] at this; omega
 have hlr:rs.length=n':=by have:=hr'.1; rw [u32s_len] at this; omega
 have c3:=H.c3
 have hlo:=f.lo
 have hhi:=f.hi
 have HH:=Lib.hid H
 have HLW:=Lib.hid hlw
 have HLR:=Lib.hid hlr
 unfold ptr at hm ⊢
 by_cases hbad:n=0∨h.size<n∨n'≠64
 ·have HE:=Lib.hid (show loadE h.size ws rs last=1∧h.loadH ws rs last=h by
   have e:=loadE_bad (size:=h.size) (ws:=ws) (rs:=rs) (last:=last) (by rw [hlw,hlr]; exact hbad)
   exact⟨e,by unfold HM.loadH; rw [if_neg (by omega)]⟩)
  clear H hr hr' h32 h32' hlw hlr
  by_cases hb0:n=0
  ·have hz:((n:Int) == 0)=true:=by simp; omega
   clear hbad hb0
   go_enter Tryz.func115,Tryz.ntmps115
   go_wp2_with fail
   refine hm.out.mono ?_
   rintro e w' ⟨rfl,rfl⟩
   go_wp2_with fail
   go_ret
   exact⟨p,by rw [HE.out.1]; rfl,by rw [HE.out.2]; exact HH.out,Step.refl _ _⟩
  ·have hz:((n:Int) == 0)=false:=by simp; omega
   by_cases hb1:h.size<n
   ·have hz1:decide (h.size<n)=true:=by simpa using hb1
    clear hbad hb0 hb1
    go_enter Tryz.func115,Tryz.ntmps115
    go_wp2_with fail
    refine hm.out.mono ?_
    rintro e w' ⟨rfl,rfl⟩
    go_wp2_with fail
    go_ret
    exact⟨p,by rw [HE.out.1]; rfl,by rw [HE.out.2]; exact HH.out,Step.refl _ _⟩
   ·have hz1:decide (h.size<n)=false:=by simpa using hb1
    have hz2:((n':Int) != 64)=true:=by rw [bne_iff_ne]; omega
    clear hbad hb0 hb1
    go_enter Tryz.func115,Tryz.ntmps115
    go_wp2_with fail
    refine hm.out.mono ?_
    rintro e w' ⟨rfl,rfl⟩
    go_wp2_with fail
    go_ret
    exact⟨p,by rw [HE.out.1]; rfl,by rw [HE.out.2]; exact HH.out,Step.refl _ _⟩
 ·have hnn:0<n:=by omega
  obtain rfl:n'=64:=by omega
  obtain⟨ad,rfl,-,-⟩:=hr.2 hnn
  obtain⟨ad',rfl,-,-⟩:=hr'.2 (by omega)
  have hz:((n:Int) == 0)=false:=by simp; omega
  have hz1:decide (h.size<n)=false:=by simp; omega
  have hmk:=make_bool n (by omega)
  have HCW:=Lib.hid (fun (w1:World) (b c0:Option (Nat × Nat)) (ha:Acc w ws rs w1 none b c0)=>acc_words ha ad n c hr hnn (by omega))
  have HCR:=Lib.hid (fun (w1:World) (a b:Option (Nat × Nat)) (ha:Acc w ws rs w1 a b none)=>acc_roots ha ad' 64 c' hr' (by omega) (by omega))
  have HAM:=Lib.hid (fun (w1:World) (a c0:Option (Nat × Nat)) (ha:Acc w ws rs w1 a none c0)=>ha.marks (by omega))
  have A0:=Acc.start w ws rs
  have hpg:=H.lt (.inl rfl)
  have HC3:=Lib.hid (fun (w1:World) (hb:Below w.heap.size w w1)=>show w1.cell? ⟨p.g,3,none⟩=some (.int .i64 h.size) from (hb.cell hpg).trans c3)
  have HNE:=Lib.hid (fun (w1:World) (hb:Below w.heap.size w w1)=>show w1.heap.size≠p.g by have:=hb.size; omega)
  rw [hlw] at HAM
  have hh32:=h32
  have hhr:=h32'
  clear H hr hr' h32 h32' hlw hlr
  go_enter Tryz.func115,Tryz.ntmps115
  go_wp2_with fail
  refine hm.out.mono ?_
  rintro e w' ⟨rfl,rfl⟩
  have HH32:=Lib.hid hh32
  have HHR:=Lib.hid hhr
  go_upto_region 3 with fail
  go_cut [9] (fun v wx=>∃ p2:HP,v = .pointer (some ⟨p2.g,0,none⟩)∧HAt wx p2 ⟨h.size,ws,List.replicate n false,rs,last⟩∧(∀ k,p2.has k→w.heap.size≤k)∧Below w.heap.size w wx)
  case first=>
   have hne0:w.heap.size≠p.g:=by omega
   have hc0:=HC3.out w.drew A0.1
   have hc0a:=HC3.out (w.drew.alloc (.cells (zcells (.bool false) n) 4)) (A0.1.alloc A0.1.size _)
   go_region_law (first
    | (go_simp; go_at_call 81; refine (HCW.out _ _ _ (by first | assumption | exact HAM.out _ _ _ (by assumption))).mono ?_; rintro e w1 ⟨g1,cap1,rfl,HA1⟩; rw [HLW.out]; have hc1:=HC3.out _ HA1.1; have hc1a:=HC3.out (w1.alloc (.cells (zcells (.bool false) n) 4)) (HA1.1.alloc HA1.1.size _); have hn1:=HNE.out _ HA1.1)
    | (go_simp; go_at_call 82; refine (HCR.out _ _ _ (by first | assumption | exact HAM.out _ _ _ (by assumption))).mono ?_; rintro e w2 ⟨g2,cap2,rfl,HA2⟩; rw [HLR.out]; have hc2:=HC3.out _ HA2.1; have hc2a:=HC3.out (w2.alloc (.cells (zcells (.bool false) n) 4)) (HA2.1.alloc HA2.1.size _); have hn2:=HNE.out _ HA2.1))
   all_goals go_wp2_with fail
   all_goals go_meet
   all_goals first
    | exact Acc.close (by assumption) h.size last HLW.out HLR.out
    | (have hcl:=Acc.close (HAM.out _ _ _ (by assumption)) h.size last HLW.out HLR.out; rw [World.size_alloc] at hcl; exact hcl)
  case rest=>
   obtain⟨p2,rfl,H2,hnew,hb2⟩:=hcut
   have hfit:HM.Fit ⟨h.size,ws,List.replicate n false,rs,last⟩:=⟨hlo,hhi,by show 1≤ws.length; rw [HLW.out]; omega,by show ws.length≤h.size; rw [HLW.out]; omega,by show (List.replicate n false).length=ws.length; rw [List.length_replicate,HLW.out],HLR.out,hh32,hhr,hl⟩
   have hbad':¬ (ws.length=0∨h.size<ws.length∨rs.length≠64):=by rw [HLW.out,HLR.out]; exact hbad
   have HS2:=hs.below hb2
   have hfar2:Far p2:=fun k hk=>hfresh k (hnew k hk)
   have HLD:=Lib.hid (laid_any H2 hfit HS2 hfar2 (by show List.replicate n false=List.replicate ws.length false; rw [HLW.out]))
   unfold ptr at HLD
   have HFIT:=Lib.hid hfit
   have HB':=Lib.hid hbad'
   have hno:loadE h.size ws rs last=20→(loadE h.size ws rs last=20∧h.loadH ws rs last=h):=fun e=>⟨e,by unfold HM.loadH; rw [if_neg (by omega)]⟩
   have HNO:=Lib.hid hno
   clear hfit hbad' hno hh32 hhr hz hz1 hbad hmk
   go_wp2_with fail
   refine HLD.out.mono ?_
   rintro e w3 ⟨b,rfl,s3,hbf,hbt⟩
   have HBF:=Lib.hid hbf
   have HBT:=Lib.hid hbt
   clear hbf hbt
   have hb3:=s3.below hb2 hnew
   cases b
   ·have HE:=Lib.hid (HNO.out (loadE_no HB'.out (not_loadOk_of_none (HBF.out rfl))))
    go_wp2_with fail
    go_ret
    exact⟨p,by rw [HE.out.1]; rfl,by rw [HE.out.2]; exact HH.out.below hb3,.of_below hb3⟩
   ·obtain⟨l,hpl,H3⟩:=HBT.out rfl
    have HPL:=Lib.hid hpl
    have hof:(⟨h.size,ws,false :: msOf l,rs,last⟩ :HM)=HM.ofWords h.size ws rs last:=by
     unfold HM.ofWords
     rw [hpl]
     rfl
    have hinv:=parseW_inv HH32.out hpl
    have L3:HM.Laid ⟨h.size,ws,false :: msOf l,rs,last⟩ l:=⟨hinv.1,rfl,hinv.2⟩
    have F3:HM.Fit ⟨h.size,ws,false :: msOf l,rs,last⟩:=⟨hlo,hhi,HFIT.out.one,HFIT.out.room,by
     show (false :: msOf l).length=ws.length
     rw [hinv.1]; simp [msOf_len],HLR.out,HH32.out,HHR.out,hl⟩
    have HSN:=Lib.hid (sound_any H3 F3 L3 (hs.below hb3))
    unfold ptr at HSN
    have HOF:=Lib.hid hof
    have H3':=Lib.hid H3
    clear hpl hof hinv L3 F3 H3 HLD
    go_wp2_with fail
    refine HSN.out.mono ?_
    rintro e w4 ⟨b2,rfl,hiff,hb4⟩
    have HIFF:=Lib.hid hiff
    clear hiff
    have hb5:=below_top hb3 hb4
    cases b2
    ·have HE:=Lib.hid (HNO.out (loadE_no HB'.out (fun ok=>by
      have:=(loadOk_iff HPL.out).1 ok
      rw [← HOF.out] at this
      exact absurd (HIFF.out.2 this) (by decide))))
     go_wp2_with fail
     go_ret
     exact⟨p,by rw [HE.out.1]; rfl,by rw [HE.out.2]; exact HH.out.below hb5,.of_below hb5⟩
    ·have hok:=loadE_ok HB'.out ((loadOk_iff HPL.out).2 (by rw [← HOF.out]; exact HIFF.out.1 rfl))
     have HE:=Lib.hid (show loadE h.size ws rs last=0∧h.loadH ws rs last=HM.ofWords h.size ws rs last from⟨hok,by unfold HM.loadH; rw [if_pos hok]⟩)
     clear hok
     have H4:=H3'.out.below hb4
     obtain⟨d0,d1,d2,d3,d4⟩:=H4.1.cells5
     have H5:=HH.out.below hb5
     obtain⟨e0,e1,e2,e3,e4⟩:=H5.1.cells5
     have ez:=H5.1.fz
     have HMV:=Lib.hid (H5.moved H4 hb5 hpg hnew)
     have HOF2:=Lib.hid (HE.out.2.trans HOF.out.symm)
     clear H4 H5
     dsimp only at d0 d1 d2 d3 d4 HMV
     go_wp2_with fail
     go_ret
     exact⟨_,by rw [HE.out.1]; rfl,by rw [HOF2.out]; exact HMV.out.1,HMV.out.2⟩
end
end Go.Proofs.YtdoahpflemgaeaaGreatDoor
