import Derived.Test.YtdoahpflemgaeaaGreatDoorJClone
import Derived.Test.YtdoahpflemgaeaaGreatDoorJZeros
import Derived.Test.YtdoahpflemgaeaaGreatDoorJLook
import Derived.Test.YtdoahpflemgaeaaGreatDoorJBase
import Derived.Test.YtdoahpflemgaeaaGreatDoorJMem
import Derived.StillTailTactics
import Derived.Deep.DeepCutAuto
import Derived.Deep.LoopGhost
import Derived.Deep.RegionHeld3
import Derived.Deep.RegionLaw
set_option linter.unusedVariables false
set_option linter.unusedSectionVars false
namespace Go.Proofs.YtdoahpflemgaeaaGreatDoor
section
open Go.RowKit
def HM.allocE (h:HM) (x:Hd):Nat:=if h.clsB x.cls=false then 3 else if h.size<h.words.length+3+x.size∨h.last=4294967295 then 4 else 0
def HM.fill (h:HM) (x:Hd):Nat:=if x.ptrB then h.roots.getD 0 0 else 0
def HM.pushH (h:HM) (x:Hd) (ys:List Nat):HM:=
 { h with words:=h.words++[x.w0,x.cls,h.last+1]++ys,starts:=h.starts++(true :: List.replicate (2+x.size) false),last:=h.last+1 }
def HM.allocH (h:HM) (x:Hd):HM:=if h.allocE x=0 then h.pushH x (List.replicate x.size (h.fill x)) else h
def HM.allocV (h:HM) (x:Hd):Value:=.tuple #[.int .u32 ((if h.allocE x=0 then 2*h.words.length else 0:Nat):Int),.int .i64 (h.allocE x)]
def Made (p:HP) (h':HM) (v:Value) (w:World) (e:Ending) (w':World):Prop:=∃ p',e = .returned v∧HAt w' p' h'∧Step p p' w w'
def AllocMid (p:HP) (h:HM) (n t s c l1 w0 gB:Nat) (w:World) (ys:List Nat) (wr:World):Prop:=
 ∃ pk:HP,HAt wr pk { h with last:=l1,words:=h.words++[w0,c,l1]++ys }∧Blk wr gB 137 #[.int .i64 n,.int .i64 t,.int .i64 s,.int .u32 c,.int .u32 l1]∧Step p pk w wr
theorem AllocMid.grow {p pk:HP} {h:HM} {n t s c l1 w0 gB k fl L g5 c5:Nat} {w wr w5:World} {o:Obj}
 (Hk:HAt wr pk { h with last:=l1,words:=h.words++[w0,c,l1]++List.replicate k fl }) (Bk:Blk wr gB 137 #[.int .i64 n,.int .i64 t,.int .i64 s,.int .u32 c,.int .u32 l1]) (sk:Step p pk w wr)
 (hgk:pk.g=p.g) (hlk:(h.words++[w0,c,l1]++List.replicate k fl).length=L)
 (hr:Row w5 g5 37 c5 (u32s (h.words++[w0,c,l1]++List.replicate k fl)++u32s [fl]))
 (hg:(wr.alloc o).grownBy w5 (Value.slice (some ⟨pk.gw,0,none⟩) L pk.cw).ownBlock)
 (hat:(Value.slice (some ⟨g5,0,none⟩) (L+1) c5).ownBlock=(Value.slice (some ⟨pk.gw,0,none⟩) L pk.cw).ownBlock∨(Value.slice (some ⟨g5,0,none⟩) (L+1) c5).ownBlock=some (wr.alloc o).heap.size):
 AllocMid p h n t s c l1 w0 gB w (List.replicate (k+1) fl) (w5.setCell ⟨p.g,0,none⟩ (.slice (some ⟨g5,0,none⟩) (L+1) c5)):=by
 have hb:Below wr.heap.size wr (wr.alloc o):=(Below.refl _ _).alloc (Nat.le_refl _) _
 have he:h.words++[w0,c,l1]++List.replicate (k+1) fl=(h.words++[w0,c,l1]++List.replicate k fl)++[fl]:=by
  rw [List.replicate_succ',← List.append_assoc]
 have hu:u32s (h.words++[w0,c,l1]++List.replicate k fl)++u32s [fl]=u32s ((h.words++[w0,c,l1]++List.replicate k fl)++[fl]):=by simp [u32s]
 rw [hu] at hr
 have hl:((h.words++[w0,c,l1]++List.replicate k fl)++[fl]).length=L+1:=by rw [List.length_append,hlk]; rfl
 obtain⟨H6,s6⟩:=HAt.grewWords (Hk.below hb) (ys:=[fl]) hr hg (by
  rcases hat with e | e
  ·left; simpa [Value.ownBlock] using e
  ·right; simp [Value.ownBlock] at e; simp [e])
 rw [hgk] at H6 s6
 rw [show ((({ h with last:=l1,words:=h.words++[w0,c,l1]++List.replicate k fl }:HM).words++[fl]).length)=L+1 from hl] at H6 s6
 have n1:gB≠pk.gw:=fun e=>Row.ne_blk Hk.2.1 Bk (by decide) e.symm
 have n2:gB≠p.g:=by rw [← hgk]; exact fun e=>Bk.ne_ Hk.1 (by decide) e
 refine⟨_,?_,((Bk.alloc o).same (hg.block gB (Bk.alloc o).lt (by simpa [Value.ownBlock] using n1))).far (p:=⟨p.g,0,none⟩) n2 _,(sk.below' hb).trans s6⟩
 rw [he]
 exact H6
set_option maxRecDepth 100000 in
set_option maxHeartbeats 4000000 in
theorem alloc_any {w:World} {p:HP} {h:HM} (H:HAt w p h) (f:h.Fit) (hs:Spares w) (hp:Far p) (x:Hd) (hx:x.Fit) (h0:x.ser=0) (hm:x.may=true):
 Calls Tryz.prog 85 #[ptr p.g,x.val] w (Made p (h.allocH x) (h.allocV x) w):=by
 have hb0:∀ o,Below w.heap.size w (w.alloc o):=fun o=>(Below.refl _ _).alloc (Nat.le_refl _) _
 have HCL:=Lib.hid (fun z=>class_any (H.below (hb0 z)) f x.cls hx.cls)
 cases hc:h.clsB x.cls
 ·rw [hc] at HCL
  have HF:=Lib.hid (show h.allocV x = .tuple #[.int .u32 0,.int .i64 3]∧h.allocH x=h by simp [HM.allocV,HM.allocH,HM.allocE,hc])
  clear hc
  unfold ptr at HCL ⊢
  unfold Hd.val
  go_enter Tryz.func85,Tryz.ntmps85
  go_wp2_with fail
  refine (HCL.out _).mono ?_
  rintro e w1 ⟨rfl,rfl⟩
  go_wp2_with fail
  go_ret2
  exact⟨p,by rw [HF.out.1]; rfl,by rw [HF.out.2]; exact H.below (hb0 _),.of_below (hb0 _)⟩
 ·rw [hc] at HCL
  have hlen:=f.room
  have hhi:=f.hi
  have hl32:=f.l32
  obtain⟨n,t,s,c,r⟩:=x
  obtain⟨f1,f2,f3,f4,f5⟩:=hx
  simp only at f1 f2 f3 f4 f5 h0 HCL hc
  subst h0
  have hn:n≤65535:=by simp [Hd.may] at hm; omega
  by_cases hful:h.size<h.words.length+3+n
  ·have HF:=Lib.hid (show h.allocV ⟨n,t,s,c,0⟩ = .tuple #[.int .u32 0,.int .i64 4]∧h.allocH ⟨n,t,s,c,0⟩=h by simp [HM.allocV,HM.allocH,HM.allocE,hc,hful])
   generalize hW:w.alloc (.cells #[.int .i64 n,.int .i64 t,.int .i64 s,.int .u32 c,.int .u32 0] 137)=W
   have HW:HAt W p h:=hW ▸ H.below (hb0 _)
   have c0:=HW.c0
   have c3:=HW.c3
   have c4:=HW.c4
   have BW:Blk W w.heap.size 137 #[.int .i64 n,.int .i64 t,.int .i64 s,.int .u32 c,.int .u32 0]:=hW ▸ Blk.new w _ _
   obtain⟨d0,d1,d2,d3,d4⟩:=BW.cells5
   have HMD:=Lib.hid (fun k=>made_any (HW.drewN k) (by have:=f.lo; omega) f.hi)
   have HW':=Lib.hid hW
   have hd:decide ((h.words.length:Int)+3+(n:Int)>(h.size:Int))=true:=by simp; omega
   have hd':(h.size:Int)<(h.words.length:Int)+3+(n:Int):=by omega
   clear hc hW
   unfold ptr at HCL HMD ⊢
   unfold Hd.val
   go_enter Tryz.func85,Tryz.ntmps85
   go_wp2_with fail
   refine (HCL.out _).mono ?_
   rintro e w1 ⟨rfl,rfl⟩
   rw [HW'.out]
   go_wp2_with fail
   go_quiet ((go_at_call 36; exact (HMD.out _).mono fun _ _ ⟨he,hm⟩=>⟨he,_,hm.symm⟩))
   go_wp2_with fail
   go_ret2
   refine⟨p,by rw [HF.out.1]; rfl,?_,?_⟩
   ·rw [HF.out.2]; first | exact HW | exact HW.drewN _
   ·rw [← HW'.out]; first | exact .of_below (hb0 _) | exact (Step.of_below (hb0 _)).drewN _
  ·by_cases hla:h.last=4294967295
   ·have HF:=Lib.hid (show h.allocV ⟨n,t,s,c,0⟩ = .tuple #[.int .u32 0,.int .i64 4]∧h.allocH ⟨n,t,s,c,0⟩=h by simp [HM.allocV,HM.allocH,HM.allocE,hc,hla])
    generalize hW:w.alloc (.cells #[.int .i64 n,.int .i64 t,.int .i64 s,.int .u32 c,.int .u32 0] 137)=W
    have HW:HAt W p h:=hW ▸ H.below (hb0 _)
    have c0:=HW.c0
    have c3:=HW.c3
    have c4:=HW.c4
    have BW:Blk W w.heap.size 137 #[.int .i64 n,.int .i64 t,.int .i64 s,.int .u32 c,.int .u32 0]:=hW ▸ Blk.new w _ _
    obtain⟨d0,d1,d2,d3,d4⟩:=BW.cells5
    have HMD:=Lib.hid (fun k=>made_any (HW.drewN k) (by have:=f.lo; omega) f.hi)
    have HW':=Lib.hid hW
    have hd:decide ((h.words.length:Int)+3+(n:Int)>(h.size:Int))=false:=by simp; omega
    have hd':(h.words.length:Int)+3+(n:Int)≤(h.size:Int):=by omega
    have hd2:((h.last:Int) == 4294967295)=true:=by rw [hla]; rfl
    clear hc hW hla hful
    unfold ptr at HCL HMD ⊢
    unfold Hd.val
    go_enter Tryz.func85,Tryz.ntmps85
    go_wp2_with fail
    refine (HCL.out _).mono ?_
    rintro e w1 ⟨rfl,rfl⟩
    rw [HW'.out]
    go_wp2_with fail
    go_quiet ((go_at_call 36; exact (HMD.out _).mono fun _ _ ⟨he,hm⟩=>⟨he,_,hm.symm⟩))
    go_wp2_with fail
    go_ret2
    refine⟨p,by rw [HF.out.1]; rfl,?_,?_⟩
    ·rw [HF.out.2]; first | exact HW | exact HW.drewN _
    ·rw [← HW'.out]; first | exact .of_below (hb0 _) | exact (Step.of_below (hb0 _)).drewN _
   ·have HF:=Lib.hid (show h.allocV ⟨n,t,s,c,0⟩ = .tuple #[.int .u32 (2*h.words.length:Nat),.int .i64 0]∧h.allocH ⟨n,t,s,c,0⟩=h.pushH ⟨n,t,s,c,0⟩ (List.replicate n (h.fill ⟨n,t,s,c,0⟩)) by
     have e:h.allocE ⟨n,t,s,c,0⟩=0:=by simp [HM.allocE,hc]; omega
     simp [HM.allocV,HM.allocH,e])
    generalize hW:w.alloc (.cells #[.int .i64 n,.int .i64 t,.int .i64 s,.int .u32 c,.int .u32 0] 137)=W
    have HW:HAt W p h:=hW ▸ H.below (hb0 _)
    have sW:Step p p w W:=hW ▸ .of_below (hb0 _)
    have c0:=HW.c0
    have c3:=HW.c3
    have c4:=HW.c4
    have f4:W.frozen? ⟨p.g,4,none⟩=false:=HW.1.frozen 4
    have BW:Blk W w.heap.size 137 #[.int .i64 n,.int .i64 t,.int .i64 s,.int .u32 c,.int .u32 0]:=hW ▸ Blk.new w _ _
    obtain⟨d0,d1,d2,d3,d4⟩:=BW.cells5
    have z4:W.frozen? ⟨w.heap.size,4,none⟩=false:=BW.frozen 4
    have hgB:p.g≠w.heap.size:=by have:=H.lt (.inl rfl); omega
    have hgB':w.heap.size≠p.g:=hgB.symm
    have HMD:=Lib.hid (fun k=>made_any (HW.drewN k) (by have:=f.lo; omega) f.hi)
    have HW':=Lib.hid hW
    have hd:decide ((h.words.length:Int)+3+(n:Int)>(h.size:Int))=false:=by simp; omega
    have hd':(h.words.length:Int)+3+(n:Int)≤(h.size:Int):=by omega
    have hd2:((h.last:Int) == 4294967295)=false:=beq_eq_false_iff_ne.2 (by omega)
    have hl1:h.last+1<4294967296:=by omega
    clear hc hW hla hful
    unfold ptr at HCL HMD ⊢
    unfold Hd.val
    go_enter Tryz.func85,Tryz.ntmps85
    go_wp2_with fail
    refine (HCL.out _).mono ?_
    rintro e w1 ⟨rfl,rfl⟩
    rw [HW'.out]
    go_wp2_with fail
    go_quiet ((go_at_call 36; exact (HMD.out _).mono fun _ _ ⟨he,hm⟩=>⟨he,_,hm.symm⟩))
    go_wp2_with fail
    obtain⟨l1,hl1e⟩ :∃ l1:Nat,l1=h.last+1:=⟨_,rfl⟩
    rw [show (h.last:Int)+1=(l1:Int) by omega]
    have hl1b:l1<4294967296:=by omega
    have HL1:=Lib.hid hl1e
    clear hl1e hl1
    generalize hW2:((W.drewN nq).setCell ⟨p.g,4,none⟩ (.int .u32 (l1:Int))).setCell ⟨w.heap.size,4,none⟩ (.int .u32 (l1:Int))=W2
    have H2:HAt W2 p { h with last:=l1 }:=by
     rw [← hW2]
     have hh:=(HW.drewN nq).setLast l1
     refine hh.same fun k hk=>Below.heap_setCell _ _ _ _ ?_
     have:=H.lt hk
     simp; omega
    have s2:Step p p w W2:=by
     rw [← hW2]
     exact (((sW.drewN nq).setCell (.inl (.inl rfl)) _).setCell (.inr (by simp)) _)
    have B2:Blk W2 w.heap.size 137 #[.int .i64 n,.int .i64 t,.int .i64 s,.int .u32 c,.int .u32 l1]:=by
     rw [← hW2]
     exact ((BW.drewN nq).far (p:=⟨p.g,4,none⟩) hgB' _).set_ 4 _
    have hs2:Spares W2:=s2.spares hp hs
    clear hW2 c0 c3 c4 f4 d0 d1 d2 d3 d4 z4 HMD HW' hd hd2 HCL
    have HPK:=Lib.hid (Pack_any ⟨n,t,s,c,l1⟩ ⟨f1,f2,f3,f4,hl1b⟩ (by simpa [Hd.may] using hm) W2 hs2)
    unfold Hd.val Hd.packed at HPK
    refine HPK.out.mono ?_
    rintro e w3 ⟨rfl,hb3⟩
    clear HPK
    generalize hw0:Hd.w0 ⟨n,t,s,c,l1⟩=w0 at *
    have HW0:=Lib.hid hw0
    clear hw0
    go_wp2_with fail
    generalize hW4:w3.alloc _=W4
    have hb4:Below W2.heap.size W2 W4:=by rw [← hW4]; exact hb3.alloc hb3.size _
    have H4:HAt W4 p { h with last:=l1 }:=H2.below hb4
    have s4:Step p p w W4:=s2.below' hb4
    have B4:=B2.below hb4 B2.lt
    have BT:Blk W4 w3.heap.size 170 #[.int .u32 w0,.int .u32 c,.int .u32 l1]:=by rw [← hW4]; exact Blk.new w3 _ _
    clear hW4 hb4 hb3 hs2 H2 s2 B2
    generalize w3.heap.size=gT at *
    have k0:=H4.c0
    have z0:W4.frozen? ⟨p.g,0,none⟩=false:=H4.1.frozen 0
    obtain⟨i0,hi0,hz0,hz1,hz2⟩:=info_parts info_u32
    have hown:=H4.2.1.owns
    rw [u32s_len] at hown
    have HO:=Lib.hid hown
    have hnews:Reads W4 W4.heap.size 1 (some ⟨gT,0,none⟩) 3 (u32s [w0,c,l1]):=⟨rfl,fun _=>⟨_,rfl,BT.lt,fun j u hj=>by
     rw [WideShapes.add_plain,Nat.zero_add,BT.cell]
     simpa [u32s] using hj⟩⟩
    have HN:=Lib.hid hnews
    clear hown hnews
    have n1:p.g≠p.gw:=fun e=>Row.ne_blk H4.2.1 H4.1 (by decide) e.symm
    have hga:p.gw<W4.heap.size:=H4.lt (.inr (.inl rfl))
    have hgg:p.g<W4.heap.size:=H4.lt (.inl rfl)
    go_region_law
     ((refine step_append_any _ (by rfl) _ _ _ (by rfl) 0 37 i0 _ 1 4 Tryz.underlying54 hi0 hz0 hz1 hz2 rfl (by omega) (.slice (some ⟨p.gw,0,none⟩) h.words.length p.cw) h.words.length (u32s h.words) (by rfl) HO.out.drew W4.heap.size (some ⟨gT,0,none⟩) 3 3 (u32s [w0,c,l1]) (by rfl) HN.out.drew (one_u32s _) (by simp only [maxLen]; omega) (by omega) (by omega) ?_; intro v1 w5 hown5 hgrow hat5; obtain⟨g5,c5,rfl,hrow5,hlen5,_⟩:=Row.of_any hown5 (by omega); have k5:=(hgrow.cell_far ⟨p.g,0,none⟩ hgg (by simp [Value.ownBlock]; exact n1)).trans k0; have z5:=(hgrow.frozen_far ⟨p.g,0,none⟩ hgg (by simp [Value.ownBlock]; exact n1)).trans z0; clear hown5))
    have hw6:u32s h.words++u32s [w0,c,l1]=u32s (h.words++[w0,c,l1]):=by simp [u32s]
    have hl6:h.words.length+3=(h.words++[w0,c,l1]).length:=by simp
    rw [hw6] at hrow5
    obtain⟨H6,s6⟩:=HAt.grewWords H4.drew hrow5 hgrow (by
     rcases hat5 with e | e
     ·left; simpa [Value.ownBlock] using e
     ·right; simp [Value.ownBlock] at e; simp [e])
    rw [← hl6] at H6 s6
    have B6:Blk (w5.setCell ⟨p.g,0,none⟩ (.slice (some ⟨g5,0,none⟩) (h.words.length+3) c5)) w.heap.size 137 #[.int .i64 n,.int .i64 t,.int .i64 s,.int .u32 c,.int .u32 l1]:=by
     have hne:w.heap.size≠p.gw:=by have:=H.lt (.inr (.inl rfl)); omega
     exact (B4.same (hgrow.block w.heap.size B4.lt (by simpa [Value.ownBlock] using hne))).far (p:=⟨p.g,0,none⟩) hgB' _
    have s6':=Step.trans s4.drew s6
    clear hgrow hat5 hlen5 hrow5 k5 z5 s6 hw6 HO HN BT H4 s4 B4 k0 z0 n1 hga hgg
    generalize hW6:w5.setCell ⟨p.g,0,none⟩ (.slice (some ⟨g5,0,none⟩) (h.words.length+3) c5)=W6 at *
    clear hW6
    have HX1:=Lib.hid (show Hd.ptrB ⟨n,t,s,c,l1⟩=Hd.ptrB ⟨n,t,s,c,0⟩ from rfl)
    have HPT:=Lib.hid (pointers_any ⟨n,t,s,c,l1⟩ ⟨f1,f2,f3,f4,hl1b⟩ W6)
    rw [HX1.out] at HPT
    unfold Hd.val at HPT
    obtain⟨e0,e1,e2,e3,e4⟩:=B6.cells5
    go_wp2_with fail
    refine HPT.out.mono ?_
    rintro e w7 ⟨rfl,hb7⟩
    clear e0 e1 e2 e3 e4
    have H7:=H6.below hb7
    have B7:=B6.below hb7 B6.lt
    have s7:=s6'.below' hb7
    have HR0:=Lib.hid (show w7.cell? ⟨p.gr,0,none⟩=some (.int .u32 ((h.roots.getD 0 0:Nat):Int)) from H7.root (i:=0) (by show 0<h.roots.length; rw [f.roots]; omega))
    have k2:=H7.c2
    clear HPT HX1 hb7 H6 B6 s6'
    obtain⟨e0,e1,e2,e3,e4⟩:=B7.cells5
    have hrl:h.roots.length=64:=f.roots
    simp only [hrl] at k2
    obtain⟨fl,hfl⟩ :∃ fl:Nat,h.fill ⟨n,t,s,c,0⟩=fl:=⟨_,rfl⟩
    rw [hfl] at HF
    have hft:=Lib.hid (show ∀ b,Hd.ptrB ⟨n,t,s,c,0⟩=b→fl=if b then h.roots.getD 0 0 else 0 from fun b e=>by rw [← hfl,← e]; rfl)
    have HM7:=Lib.hid (show AllocMid p h n t s c l1 w0 w.heap.size w [] w7 from⟨_,by simpa using H7,B7,s7⟩)
    clear hfl hrl H7 B7 s7
    generalize h.roots.getD 0 0=r0 at *
    generalize Hd.ptrB ⟨n,t,s,c,0⟩=pb at *
    simp only []
    go_upto_if 75 with fail
    go_cut [9] (fun s9 wx=>s9 = .int .u32 fl∧AllocMid p h n t s c l1 w0 w.heap.size w [] wx)
    case first=>
     cases pb
     ·have hfl:=hft.out _ rfl
      simp only [Bool.false_eq_true,if_false] at hfl
      subst hfl
      clear hft
      go_wp2_with fail
      go_meet
      exact⟨rfl,HM7.out⟩
     ·have hfl:=hft.out _ rfl
      simp only [if_true] at hfl
      subst hfl
      clear hft
      have hcell:=HR0.out
      go_wp2_with fail
      go_meet
      exact⟨rfl,HM7.out⟩
    case rest=>
     obtain⟨rfl,hmid⟩:=hcut
     clear hft HM7 HR0 k2 e0 e1 e2 e3 e4
     obtain⟨p7,H7,B7,s7⟩:=hmid
     obtain⟨e0,e1,e2,e3,e4⟩:=B7.cells5
     go_wp2_with fail
     have HM8:=Lib.hid (show AllocMid p h n t s c l1 w0 w.heap.size w (List.replicate 0 fl) wc from⟨p7,H7,B7,s7⟩)
     clear H7 B7 s7 e0 e1 e2 e3 e4
     go_loopw [84] (fun i wr=>∃ k:Nat,k≤n∧i = .int .i64 k∧AllocMid p h n t s c l1 w0 w.heap.size w (List.replicate k fl) wr) (fun i _=>n-(intOf i).toNat)
     case atStart=>exact⟨0,by omega,rfl,HM8.out⟩
     case round=>
      clear HM8
      obtain⟨k,hk,rfl,hmid⟩:=hrel
      by_cases hlt:k<n
      ·obtain⟨pk,Hk,Bk,sk⟩:=hmid
       obtain⟨L,hlk⟩ :∃ L,(h.words++[w0,c,l1]++List.replicate k fl).length=L:=⟨_,rfl⟩
       have hLb:L≤1048575:=by rw [← hlk]; simp; omega
       have hL0:1≤L:=by rw [← hlk]; simp; omega
       have hgk:=sk.g
       have k0:=Hk.c0
       have zz:=Hk.1.frozen 0
       have hown:=Hk.2.1.owns
       simp only [hlk] at k0
       rw [u32s_len] at hown
       simp only [hlk] at hown
       rw [hgk] at k0 zz
       have n1:p.g≠pk.gw:=fun e=>Row.ne_blk Hk.2.1 Hk.1 (by decide) (by rw [hgk]; exact e.symm)
       have hgg:p.g<wr.heap.size:=by have:=Hk.lt (.inl rfl); omega
       have HO:=Lib.hid hown
       have HK:=Lib.hid Hk
       have HGK:=Lib.hid hgk
       have HLK:=Lib.hid hlk
       obtain⟨i0,hi0,hz0,hz1,hz2⟩:=info_parts info_u32
       clear hown Hk hgk hlk
       go_wp2_with (at_builtin; refine wpList_append_any _ rfl (.tmp 90) (.tmp 92) _ rfl 0 37 i0 _ 1 4 Tryz.underlying54 hi0 hz0 hz1 hz2 rfl (by omega) (.slice (some ⟨pk.gw,0,none⟩) L pk.cw) L _ rfl (HO.out.alloc _) (wr.heap.size+1) (some ⟨wr.heap.size,0,none⟩) 1 1 (u32s [fl]) rfl ⟨rfl,fun _=>⟨_,rfl,by simp,cell_one_new _ _ _⟩⟩ (one_u32s _) (by simp only [maxLen]; omega) (by omega) (by omega) ?_; intro v1 w5 hown5 hgrow hat5; obtain⟨g5,c5,rfl,hrow5,hlen5,_⟩:=Row.of_any hown5 (by omega); have k5:=(hgrow.cell_far ⟨p.g,0,none⟩ (by simp; omega) (by simp [Value.ownBlock]; exact n1)).trans (show (wr.alloc _).cell? _=_ from (World.cell?_alloc_lt wr _ _ hgg).trans k0); have z5:=(hgrow.frozen_far ⟨p.g,0,none⟩ (by simp; omega) (by simp [Value.ownBlock]; exact n1)).trans (World.frozen?_alloc_old _ _ _ (by simp; omega) |>.trans zz); clear hown5)
       go_roundw
       case rel=>exact⟨k+1,by omega,by go_num,AllocMid.grow HK.out Bk sk HGK.out HLK.out hrow5 hgrow hat5⟩
       case measure=>simp [intOf]; omega
      ·obtain rfl:k=n:=by omega
       obtain⟨pk,Hk,Bk,sk⟩:=hmid
       have hgk:=sk.g
       have k1:=Hk.c1
       have zz:=Hk.1.frozen 1
       rw [hgk] at k1 zz
       have HS:=Lib.hid Hk.2.2.1
       have HK:=Lib.hid Hk
       have HGK:=Lib.hid hgk
       have n1:p.g≠pk.gs:=fun e=>Row.ne_blk Hk.2.2.1 Hk.1 (by decide) (by rw [hgk]; exact e.symm)
       have hgg:p.g<wr.heap.size:=by have:=Hk.lt (.inl rfl); omega
       have hsl:(bools h.starts).length=h.starts.length:=bools_len _
       have hml:h.starts.length=h.words.length:=f.marks
       have hsb:h.starts.length≤1048576:=by omega
       have HSL:=Lib.hid hsl
       have HML:=Lib.hid hml
       clear Hk hgk hsl hml
       obtain⟨e0,e1,e2,e3,e4⟩:=Bk.cells5
       obtain⟨i0,hi0,hz0,hz1,hz2⟩:=info_parts info_bool
       have a1:IntKind.i64.wrap (3+(k:Int))=3+(k:Int):=IntWalk.i64_in _ (by omega)
       go_wp2_with fail
       go_region_law
        ((refine step_append_zeros (by rfl) _ _ _ _ (by rfl) (show Row wr.drew pk.gs 4 pk.cs (bools h.starts) from HS.out) i0 _ 1 Tryz.underlying76 Tryz.underlying3 hi0 hz0 hz1 hz2 rfl rfl h.starts.length (3+k) HSL.out (by omega) (by simp only [maxLen]; omega) (by omega) (by rfl) (by first | rfl | (simp; omega)) ?_; intro g6 c6 w6 hrow6 hgrow6 hat6; have k6:=(hgrow6.cell_far ⟨p.g,1,none⟩ hgg (by simpa using n1)).trans k1; have z6:=(hgrow6.frozen_far ⟨p.g,1,none⟩ hgg (by simpa using n1)).trans zz))
       all_goals
        have hu:bools h.starts++List.replicate (3+k) (Value.bool false)=bools (h.starts++List.replicate (3+k) false):=by simp [bools]
        have hl9:(h.starts++List.replicate (3+k) false).length=h.starts.length+(3+k):=by simp
        rw [hu] at hrow6
        obtain⟨H9,s9⟩:=HAt.grewStarts (ys:=List.replicate (3+k) false) (show HAt wr.drew pk _ from HK.out) hrow6 hgrow6 (by
         rcases hat6 with e | e
         ·exact .inl e
         ·right; rw [e]; exact Nat.le_refl _)
        have s9':=sk.drew.trans s9
        rw [HGK.out] at H9 s9'
        simp only [hl9] at H9 s9'
        have k9:=H9.c1
        simp only [hl9] at k9
        have m9:=H9.mark (i:=h.starts.length) (by show h.starts.length<(h.starts++List.replicate (3+k) false).length; rw [hl9]; omega)
        have z9:(w6.setCell ⟨p.g,1,none⟩ (.slice (some ⟨g6,0,none⟩) (h.starts.length+(3+k)) c6)).frozen? ⟨g6,h.starts.length,none⟩=false:=H9.2.2.1.frozen _
        have HF9:=Lib.hid (H9.setMark h.starts.length true)
        have S9:=Lib.hid s9'
        have HAT:=Lib.hid (fun w=>oat_any h.words.length f.one (by omega) w)
        have hwl:h.words.length=h.starts.length:=HML.out.symm
        clear hrow6 hgrow6 hat6 s9 s9' hu hl9 a1 H9 k6 z6 e0 e1 e2 e3 e4
        generalize w6.setCell ⟨p.g,1,none⟩ (.slice (some ⟨g6,0,none⟩) (h.starts.length+(3+k)) c6)=W9 at *
        generalize (h.starts++List.replicate (3+k) false).getD h.starts.length false=b9 at *
        have k9':W9.cell? ⟨p.g,1,none⟩=some (.slice (some ⟨g6,0,none⟩) (h.starts.length+(3+k)) c6):=k9
        have m9':W9.cell? ⟨g6,h.starts.length,none⟩=some (.bool b9):=m9
        clear k9 m9
        rw [hwl] at HAT ⊢
        have hlt9:(h.starts.length:Int)<((h.starts.length+(3+k):Nat):Int):=by omega
        clear hwl
        go_wp2_with fail
        refine (HAT.out _).mono ?_
        rintro e w10 ⟨rfl,rfl⟩
        go_wp2_with fail
        go_ret2
        refine⟨_,?_,?_,S9.out.setCell (S9.out.rows g6 (.inr (.inr (.inl rfl)))) _⟩
        ·rw [HF.out.1,← HML.out]
         simp
        ·rw [HF.out.2]
         have e1:Hd.w0 ⟨k,t,s,c,0⟩=w0:=HW0.out
         have e2:(h.starts++List.replicate (3+k) false).set h.starts.length true=h.starts++(true :: List.replicate (2+k) false):=by
          rw [List.set_append_right _ _ (by omega),Nat.sub_self,show 3+k=(2+k)+1 by omega,List.replicate_succ]
          rfl
         have e3:=HF9.out
         rw [e2] at e3
         unfold HM.pushH
         rw [e1,← HL1.out]
         exact e3
end
section
open Go.RowKit
def allocOk (f n:Int):Bool:=decide (1≤f) && decide (f≤4) && decide (0≤n) && decide (n≤65535)
def mkHd (c:Nat) (f n:Int):Hd:=⟨n.toNat,f.toNat,0,c,0⟩
def HM.AllocH (h:HM) (c:Nat) (f n:Int):HM:=if allocOk f n then h.allocH (mkHd c f n) else h
def HM.AllocV (h:HM) (c:Nat) (f n:Int):Value:=if allocOk f n then h.allocV (mkHd c f n) else .tuple #[.int .u32 0,.int .i64 1]
set_option maxHeartbeats 1000000 in
theorem Alloc_any {w:World} {p:HP} {h:HM} (H:HAt w p h) (f:h.Fit) (hs:Spares w) (hp:Far p) (c:Nat) (hc:c<4294967296) (t n:Int):
 Calls Tryz.prog 38 #[ptr p.g,.int .u32 c,.int .i64 t,.int .i64 n] w (Made p (h.AllocH c t n) (h.AllocV c t n) w):=by
 have bad:allocOk t n=false→(h.AllocH c t n=h∧h.AllocV c t n = .tuple #[.int .u32 0,.int .i64 1]):=fun e=>by simp [HM.AllocH,HM.AllocV,e]
 by_cases h1:t<1
 ·have HF:=Lib.hid (bad (by simp [allocOk]; omega))
  clear bad
  go_enter Tryz.func38,Tryz.ntmps38
  go_wp2_with fail
  go_ret2
  exact⟨p,by rw [HF.out.2]; rfl,by rw [HF.out.1]; exact H,Step.refl _ _⟩
 by_cases h2:4<t
 ·have HF:=Lib.hid (bad (by simp [allocOk]; omega))
  clear bad
  go_enter Tryz.func38,Tryz.ntmps38
  go_wp2_with fail
  go_ret2
  exact⟨p,by rw [HF.out.2]; rfl,by rw [HF.out.1]; exact H,Step.refl _ _⟩
 by_cases h3:n<0
 ·have HF:=Lib.hid (bad (by simp [allocOk]; omega))
  clear bad
  go_enter Tryz.func38,Tryz.ntmps38
  go_wp2_with fail
  go_ret2
  exact⟨p,by rw [HF.out.2]; rfl,by rw [HF.out.1]; exact H,Step.refl _ _⟩
 by_cases h4:65535<n
 ·have HF:=Lib.hid (bad (by simp [allocOk]; omega))
  clear bad
  go_enter Tryz.func38,Tryz.ntmps38
  go_wp2_with fail
  go_ret2
  exact⟨p,by rw [HF.out.2]; rfl,by rw [HF.out.1]; exact H,Step.refl _ _⟩
 clear bad
 obtain⟨k,rfl⟩:=Int.eq_ofNat_of_zero_le (by omega:0≤n)
 obtain⟨s,rfl⟩:=Int.eq_ofNat_of_zero_le (by omega:0≤t)
 have HF:=Lib.hid (show h.AllocH c s k=h.allocH ⟨k,s,0,c,0⟩∧h.AllocV c s k=h.allocV ⟨k,s,0,c,0⟩ by
  have e:allocOk s k=true:=by simp [allocOk]; omega
  simp [HM.AllocH,HM.AllocV,e,mkHd])
 have HA:=Lib.hid (alloc_any H f hs hp ⟨k,s,0,c,0⟩ ⟨by simp; omega,by simp; omega,by simp,hc,by simp⟩ rfl (by simp [Hd.may]; omega))
 unfold Hd.val at HA
 generalize h.allocH ⟨k,s,0,c,0⟩=h2 at *
 have hv:∃ a b:Int,h.allocV ⟨k,s,0,c,0⟩ = .tuple #[.int .u32 a,.int .i64 b]:=⟨_,_,rfl⟩
 obtain⟨a,b,hv⟩:=hv
 rw [hv] at HA HF
 clear hv
 go_enter Tryz.func38,Tryz.ntmps38
 go_wp2_with fail
 refine HA.out.mono ?_
 rintro e w1 ⟨p1,rfl,H1,s1⟩
 go_wp2_with fail
 go_ret2
 exact⟨p1,by rw [HF.out.2]; rfl,by rw [HF.out.1]; exact H1,s1⟩
theorem olength_any (n:Nat) (hn:n≤9223372036854775807) (w:World):
 Calls Tryz.prog 175 #[.int .i64 n] w fun e w'=>e = .returned (.tuple (if 262140<n then #[.int .i64 0,.int .i64 0,.int .i64 1] else #[.int .i64 ((n+3) / 4:Nat),.int .i64 (4*((n+3) / 4)-n:Nat),.int .i64 0]))∧w=w':=by
 by_cases h1:262140<n
 ·rw [if_pos h1]
  have h1':(262140:Int)<n:=by omega
  go_enter Tryz.func175,Tryz.ntmps175
  go_wp2_with fail
  go_ret3
  exact⟨by simp,rfl⟩
 ·rw [if_neg h1]
  have h1':(n:Int)≤262140:=by omega
  have e1:(((n+3) / 4:Nat):Int)=((n:Int)+3) / 4:=by omega
  have e2:((4*((n+3) / 4)-n:Nat):Int)=4*(((n:Int)+3) / 4)-n:=by omega
  rw [e2,e1]
  clear e1 e2 h1
  go_enter Tryz.func175,Tryz.ntmps175
  go_wp2_with fail
  go_ret3
  exact⟨by simp,rfl⟩
end
section
open Go.RowKit
theorem run_make_rowN {P:Program} (t e:TypeId) (i:TypeInfo) (z:Value) (ht:P.underlying t=some (.slice e)) (hi:P.info? e=some i) (hz:i.zero=some z)
 (kl kc:IntKind) (n c:Nat) (hnc:n≤c) (hbytes:i.bytes*c≤281474976710656) (h63:c≤9223372036854775807) (w:World):
 (Instr.makeSlice t (.int kl (n:Int)) (.int kc (c:Int))).run P w = .ok (.slice (some ⟨w.heap.size,0,none⟩) n c) (w.alloc (.cells (madeCells z.cells (c*i.size)) e)):=by
 have hb:(i.bytes:Int)*(c:Int)≤281474976710656:=by
  have h:((i.bytes*c:Nat):Int)≤281474976710656:=by omega
  rwa [Int.natCast_mul] at h
 have hr:=run_make (P:=P) w t e i z ht hi hz kl kc n c (by omega) (by omega) hb (by omega)
 simp only [Int.toNat_natCast] at hr
 exact hr
def zcells (z:Value) (n:Nat):Array Value:=Array.replicate n z
theorem make_u32 (F:Nat) (hF:F≤1048576) (w:World):
 (Instr.makeSlice 54 (.int .i64 (F:Int)) (.int .i64 (F:Int))).run Tryz.prog w = .ok (.slice (some ⟨w.heap.size,0,none⟩) F F) (w.alloc (.cells (zcells (.int .u32 0) F) 37)):=by
 obtain⟨i0,hi0,hz0,hz1,hz2⟩:=info_parts info_u32
 have:=run_make_rowN (P:=Tryz.prog) 54 37 i0 _ Tryz.underlying54 hi0 hz0 .i64 .i64 F F (Nat.le_refl _) (by rw [hz2]; omega) (by omega) w
 have e:madeCells (Value.int .u32 0).cells (F*1)=zcells (.int .u32 0) F:=by
  apply Array.ext
  ·simp [madeCells,zcells,Value.cells]
  ·intro i h1 h2
   simp [madeCells,zcells,Value.cells,Nat.mod_one]
 rw [this,hz1,e]
theorem zcells_row (w:World) (e:TypeId) (F x:Nat) (hF:F≤maxLen):Row (w.alloc (.cells (zcells (.int .u32 x) F) e)) w.heap.size e F (u32s (List.replicate F x)):=
 ⟨zcells (.int .u32 x) F,Blk.new w _ _,by simp [u32s],hF,by simp [zcells],by simp [zcells,u32s]⟩
def PackedB (bs:List Nat) (w:World) (d:Ending) (w':World):Prop:=
 ∃ g,d = .returned (.tuple #[.slice (some ⟨g,0,none⟩) (packM bs).length (packM bs).length,.int .i64 (4*((bs.length+3) / 4)-bs.length:Nat),.int .i64 0])∧
   Row w' g 37 (packM bs).length (u32s (packM bs))∧w.heap.size≤g∧Below w.heap.size w w'
theorem u8c_at {zs:List Nat} {k:Nat} {u:Value} (h:(u8c zs)[k]? = some u):∃ x,zs[k]? = some x∧u = .int .u8 (x:Int):=by
 unfold u8c at h
 rw [List.getElem?_map] at h
 cases hz:zs[k]? with
 | none=>rw [hz] at h; cases h
 | some x=>rw [hz] at h; exact⟨x,rfl,by injection h with h; exact h.symm⟩
theorem packBytes_long {w:World} (A:Option Addr) (n c:Nat) (hn:262140<n) (hm:n≤9223372036854775807):
 Calls Tryz.prog 158 #[.slice A n c] w fun e w'=>e = .returned (.tuple #[.slice none 0 0,.int .i64 0,.int .i64 2])∧w=w':=by
 have HL:=Lib.hid (olength_any n hm w)
 rw [if_pos hn] at HL
 go_enter Tryz.func158,Tryz.ntmps158
 go_wp2_with fail
 refine HL.out.mono ?_
 rintro e w1 ⟨rfl,rfl⟩
 go_wp2_with fail
 go_ret3
 exact⟨by simp,rfl⟩
set_option maxHeartbeats 4000000 in
theorem packBytes_any {w:World} (A:Option Addr) (n c B:Nat) (bs:List Nat) (hn:n≤262140) (hr:Reads w B 1 A n (u8c bs)) (hB:B≤w.heap.size) (hb:∀ x∈bs,x<256):
 Calls Tryz.prog 158 #[.slice A n c] w (PackedB bs w):=by
 have hl:bs.length=n:=by have:=hr.1; simpa [u8c] using this
 subst hl
 have HL:=Lib.hid (olength_any bs.length (by omega) w)
 rw [if_neg (by omega)] at HL
 have HRD:=Lib.hid hr
 have HBB:=Lib.hid hb
 have hmk:=make_u32 ((bs.length+3) / 4) (by omega)
 have HPL:=Lib.hid (packM_len bs)
 have hpk:packM bs=packK ((bs.length+3) / 4) bs bs.length:=rfl
 have HPK:=Lib.hid hpk
 clear hr hb hpk
 have hF:bs.length≤4*((bs.length+3) / 4):=by omega
 have hF2:(bs.length+3) / 4≤65535:=by omega
 generalize hFe:(bs.length+3) / 4=F at *
 have HFE:=Lib.hid hFe
 clear hFe
 generalize hN:bs.length=N at *
 have HN:=Lib.hid hN
 clear hN
 go_enter Tryz.func158,Tryz.ntmps158
 go_wp2_with fail
 refine HL.out.mono ?_
 rintro e w1 ⟨rfl,rfl⟩
 go_wp2_with fail
 have HS:=Lib.hid (show Row (w.alloc (.cells (zcells (.int .u32 0) F) 37)) w.heap.size 37 F (u32s (packK F bs 0)) from by rw [packK_zero]; exact zcells_row w _ F 0 (by simp only [maxLen]; omega))
 have HB0:=Lib.hid (show Below w.heap.size w (w.alloc (.cells (zcells (.int .u32 0) F) 37)) from (Below.refl _ _).alloc (Nat.le_refl _) _)
 clear hmk
 go_loopw [24] (fun i wr=>∃ k:Nat,k≤N∧i = .int .i64 k∧Row wr w.heap.size 37 F (u32s (packK F bs k))∧Below w.heap.size w wr) (fun i _=>N-(intOf i).toNat)
 case atStart=>exact⟨0,by omega,rfl,HS.out,HB0.out⟩
 case round=>
  clear HS HB0
  obtain⟨k,hk,rfl,hrow,hbel⟩:=hrel
  by_cases hlt:k<N
  ·obtain⟨ad,u0,hA,_,hx,hcell0⟩:=(HRD.out.below (hbel.mono hB)).at_ hlt
   obtain⟨x,hxe,rfl⟩:=u8c_at hx
   have hx8:=HBB.out x (List.mem_of_getElem? hxe)
   have hkF:k / 4<F:=by omega
   have hcw:=hrow.cell (i:=k / 4) (u:=.int .u32 ((wordAt (bs.take k) (k / 4):Nat):Int)) (by simp [u32s,packK_get F bs k _ hkF])
   have hcf:=hrow.frozen (k / 4)
   have hold:=wordAt_lt (bs.take k) (fun y hy=>HBB.out y (List.mem_of_mem_take hy)) (k / 4)
   have hstep:=packK_step F bs HBB.out k hkF
   have hxg:bs.getD k 0=x:=by simp [List.getD,hxe]
   rw [hxg] at hstep
   have hset:=hrow.set (k / 4) (.int .u32 ((wordAt (bs.take k) (k / 4) ||| (x*2 ^ (8*(k%4))):Nat):Int))
   rw [show (u32s (packK F bs k)).set (k / 4) (.int .u32 ((wordAt (bs.take k) (k / 4) ||| (x*2 ^ (8*(k%4))):Nat):Int))=u32s (packK F bs (k+1)) by rw [← hstep]; simp [u32s]] at hset
   have hsh:x*2 ^ (8*(k%4))<4294967296:=by
    rcases (by omega:k%4=0∨k%4=1∨k%4=2∨k%4=3) with r | r | r | r <;> rw [r] <;> omega
   have hor:=u32_or_nat (wordAt (bs.take k) (k / 4)) (x*2 ^ (8*(k%4))) hold hsh
   have HSET:=Lib.hid hset
   have HOR:=Lib.hid hor
   clear hset hor hstep hxg hxe hx hrow hsh
   generalize wordAt (bs.take k) (k / 4)=old at *
   generalize hnw:(old ||| x*2 ^ (8*(k%4)))=nw at *
   clear hnw
   obtain⟨j,hj⟩ :∃ j,k / 4=j:=⟨_,rfl⟩
   have hdiv:(k:Int) / 4=(j:Int):=by omega
   rw [hj] at hcw hcf HSET hkF
   clear hj
   have HBEL:=Lib.hid hbel
   clear hbel
   have hjF:(j:Int)<(F:Int):=by omega
   have hj0:(0:Int)≤(j:Int):=by omega
   subst hA
   rcases (by omega:k%4=0∨k%4=1∨k%4=2∨k%4=3) with hr | hr | hr | hr
   all_goals
    have hor:=HOR.out
    rw [hr] at hor
    have hmod:(k:Int)%4=((k%4:Nat):Int):=by omega
    rw [hr] at hmod
    simp at hor
    clear hr
    go_wp2_with fail
    go_region
   all_goals
    go_wp2_with fail
    go_roundw
    case rel=>exact⟨k+1,by omega,by go_num,HSET.out,(HBEL.out.setCell (by simp) _).drew⟩
    case measure=>simp [intOf]; omega
  ·obtain rfl:k=N:=by omega
   have HR:=Lib.hid hrow
   have HBEL:=Lib.hid hbel
   clear hrow hbel
   go_wp2_with fail
   go_ret3
   refine⟨w.heap.size,?_,?_,Nat.le_refl _,HBEL.out⟩
   ·rw [HPL.out,HN.out,HFE.out]
    simp
   ·rw [HPL.out,HPK.out]
    exact HR.out
end
section
open Go.RowKit
def bytes4 (x:Nat):List Nat:=[x%256,x / 256%256,x / 65536%256,x / 16777216%256]
def bytesM (ys:List Nat):List Nat:=ys.flatMap bytes4
theorem bytesM_len (ys:List Nat):(bytesM ys).length=4*ys.length:=by
 induction ys with
 | nil=>rfl
 | cons x ys ih=>
   have:bytesM (x :: ys)=bytes4 x++bytesM ys:=rfl
   rw [this,List.length_append,ih]
   simp [bytes4]; omega
theorem bytesM_take (ys:List Nat) (k x:Nat) (h:ys[k]? = some x):bytesM (ys.take (k+1))=bytesM (ys.take k)++bytes4 x:=by
 rw [List.take_add_one,h]
 simp [bytesM,List.flatMap_append]
def spareE (ys:List Nat) (s:Nat):Nat:=if ((bytesM ys).drop (4*ys.length-s)).all (· == 0) then 0 else 10
def UnpB (ys:List Nat) (s:Nat) (w:World) (d:Ending) (w':World):Prop:=
 Below w.heap.size w w'∧if spareE ys s=0 then ∃ g c,d = .returned (.tuple #[.slice (some ⟨g,0,none⟩) (4*ys.length-s) (4*ys.length-s),.int .i64 0])∧Row w' g 5 c (u8c (bytesM ys))∧w.heap.size≤g
  else d = .returned (.tuple #[.slice none 0 0,.int .i64 10])
theorem u32s_at {zs:List Nat} {k:Nat} {u:Value} (h:(u32s zs)[k]? = some u):∃ x,zs[k]? = some x∧u = .int .u32 (x:Int):=by
 unfold u32s at h
 rw [List.getElem?_map] at h
 cases hz:zs[k]? with
 | none=>rw [hz] at h; cases h
 | some x=>rw [hz] at h; exact⟨x,rfl,by injection h with h; exact h.symm⟩
theorem one_u8c (l:List Nat):∀ u∈u8c l,u.oneCell'=true:=by
 intro u hu; obtain⟨x,_,rfl⟩:=List.mem_map.1 hu; rfl
theorem make_u8 (F:Nat) (hF:F≤4194304) (w:World):
 (Instr.makeSlice 56 (.int .i64 0) (.int .i64 (F:Int))).run Tryz.prog w = .ok (.slice (some ⟨w.heap.size,0,none⟩) 0 F) (w.alloc (.cells (zcells (.int .u8 0) F) 5)):=by
 obtain⟨i0,hi0,hz0,hz1,hz2⟩:=info_parts info_u8
 have:=run_make_rowN (P:=Tryz.prog) 56 5 i0 _ Tryz.underlying56 hi0 hz0 .i64 .i64 0 F (by omega) (by rw [hz2]; omega) (by omega) w
 have e:madeCells (Value.int .u8 0).cells (F*1)=zcells (.int .u8 0) F:=by
  apply Array.ext
  ·simp [madeCells,zcells,Value.cells]
  ·intro i h1 h2
   simp [madeCells,zcells,Value.cells,Nat.mod_one]
 have e0:((0:Nat):Int)=0:=rfl
 rw [e0] at this
 rw [this,hz1,e]
theorem zcells_row0 (w:World) (e:TypeId) (F:Nat) (z:Value) (hF:F≤maxLen):Row (w.alloc (.cells (zcells z F) e)) w.heap.size e F []:=
 ⟨zcells z F,Blk.new w _ _,by simp,hF,by simp [zcells],by simp⟩
theorem Row.ownsB {w:World} {g c B L:Nat} {e:TypeId} {xs:List Value} (h:Row w g e c xs) (hB:B≤g) (hl:xs.length=L):w.ownsRow B e 1 (.slice (some ⟨g,0,none⟩) L c) L xs:=by
 subst hl
 obtain⟨cur,hb,hl,hm,hc,hx⟩:=h
 exact⟨by simp,.inr ⟨g,c,cur,rfl,hB,hb,hl,hm,by simpa using hc,by simpa using hx⟩⟩
theorem owns_alloc {w:World} {B e n:Nat} {v:Value} {xs:List Value} (h:w.ownsRow B e 1 v n xs) (o:Obj):(w.alloc o).ownsRow B e 1 v n xs:=by
 obtain⟨h1,h2⟩:=h
 refine⟨h1,?_⟩
 rcases h2 with h2 | ⟨g,c,cur,hv,hB,hb,r⟩
 ·exact .inl h2
 ·exact .inr ⟨g,c,cur,hv,hB,Blk.alloc hb o,r⟩
theorem reads_new4 (w:World) (e:TypeId) (a b c d:Value):Reads (w.alloc (.cells #[a,b,c,d] e)) (w.heap.size+1) 1 (some ⟨w.heap.size,0,none⟩) 4 [a,b,c,d]:=
 ⟨rfl,fun _=>⟨_,rfl,by simp,fun j u hj=>by
   rw [WideShapes.add_plain,Nat.zero_add,(Blk.new w _ _).cell]
   simpa using hj⟩⟩
theorem one4 (a b c d:Int):∀ u∈([.int .u8 a,.int .u8 b,.int .u8 c,.int .u8 d]:List Value),u.oneCell'=true:=by
 intro u hu
 simp at hu
 rcases hu with rfl | rfl | rfl | rfl <;> rfl
theorem bytes4_eq {w:World} {B e n:Nat} {v:Value} {ys:List Nat} {k x:Nat} {a b c d:Int} (h:w.ownsRow B e 1 v n (u8c (bytesM (ys.take k))++[.int .u8 a,.int .u8 b,.int .u8 c,.int .u8 d]))
 (hk:bytesM (ys.take (k+1))=bytesM (ys.take k)++bytes4 x) (ha:a=(x:Int)%256) (hb:b=(x:Int) / 256%256) (hc:c=(x:Int) / 65536%256) (hd:d=(x:Int) / 16777216%256):
 w.ownsRow B e 1 v n (u8c (bytesM (ys.take (k+1)))):=by
 subst ha hb hc hd
 rw [hk]
 simpa [u8c,bytes4] using h
theorem below_grown {w w1 w2:World} {B:Nat} {b:Option Nat} (hBs:B≤w.heap.size) (h:Below B w w1) (hg:w1.grownBy w2 b) (hb:∀ g,b=some g→B≤g):Below B w w2:=
 ⟨hg.os.trans h.os,hg.tape.trans h.tape,hg.output.trans h.output,Nat.le_trans h.size hg.size,fun k hk=>(hg.block k (Nat.lt_of_lt_of_le hk (Nat.le_trans hBs h.size)) (fun e=>by have:=hb k e.symm; omega)).trans (h.block k hk)⟩
theorem spareE_zero (ys:List Nat):spareE ys 0=0:=by
 unfold spareE
 rw [Nat.sub_zero,← bytesM_len,List.drop_length]
 rfl
set_option maxRecDepth 100000 in
set_option maxHeartbeats 4000000 in
theorem unpackBytes_any {w:World} (A:Option Addr) (n c B s:Nat) (ys:List Nat) (hn:n≤65535) (hr:Reads w B 1 A n (u32s ys)) (hB:B≤w.heap.size) (hb:∀ x∈ys,x<4294967296) (hs:s≤3) (hs0:0<s→0<n):
 Calls Tryz.prog 120 #[.slice A n c,.int .i64 s] w (UnpB ys s w):=by
 have hl:ys.length=n:=by have:=hr.1; simpa [u32s] using this
 have HRD:=Lib.hid hr
 have HBB:=Lib.hid hb
 have HL:=Lib.hid hl
 have hmk:=make_u8 (4*n) (by omega) w
 have hS:=Lib.hid (show Row (w.alloc (.cells (zcells (.int .u8 0) (4*n)) 5)) w.heap.size 5 (4*n) (u8c (bytesM (ys.take 0))) from by simpa [bytesM,u8c] using zcells_row0 w 5 (4*n) (.int .u8 0) (by simp only [maxLen]; omega))
 have HB0:=Lib.hid (show Below w.heap.size w (w.alloc (.cells (zcells (.int .u8 0) (4*n)) 5)) from (Below.refl _ _).alloc (Nat.le_refl _) _)
 clear hr hb hl
 obtain⟨N4,hN4⟩ :∃ N4,4*n=N4:=⟨_,rfl⟩
 have hN4i:4*(n:Int)=(N4:Int):=by omega
 rw [hN4] at hmk hS HB0
 have HG:=Lib.hid (show (s=0∨0<s∧0<n) by omega)
 have hnz:(decide (0<(s:Int)) && ((n:Int) == 0))=false:=by
  by_cases h:0<s
  ·have:=hs0 h
   simp; omega
  ·simp; omega
 have hpos:∀ v:Bool,(if decide (0<(s:Int))=true then v else false)=(decide (0<(s:Int)) && v):=fun v=>by cases decide (0<(s:Int)) <;> rfl
 clear hs0
 obtain⟨i0,hi0,hz0,hz1,hz2⟩:=info_parts info_u8
 rcases (by have:=HG.out; omega:s=0∨0<s∧¬ n=0) with h0 | ⟨h0,h1⟩
 ·subst h0
  go_enter Tryz.func120,Tryz.ntmps120
  go_wp2_with fail
  clear hmk
  go_loopw [6,36] (fun b i wr=>∃ (k g1 c1 L:Nat),k≤n∧i = .int .i64 k∧b = .slice (some ⟨g1,0,none⟩) L c1∧L=4*k∧Row wr g1 5 c1 (u8c (bytesM (ys.take k)))∧w.heap.size≤g1∧Below w.heap.size w wr) (fun _ i _=>n-(intOf i).toNat)
  case atStart=>exact⟨0,_,_,_,by omega,rfl,rfl,rfl,hS.out,Nat.le_refl _,HB0.out⟩
  case round=>
   clear hS HB0
   obtain⟨k,g1,c1,L,hk,rfl,rfl,hLk,hrow,hg1,hbel⟩:=hrel
   by_cases hlt:k<n
   ·obtain⟨ad,u0,hA,_,hx,hcell0⟩:=(HRD.out.below (hbel.mono hB)).at_ hlt
    obtain⟨x,hxe,rfl⟩:=u32s_at hx
    have hx32:=HBB.out x (List.mem_of_getElem? hxe)
    have HTK:=Lib.hid (bytesM_take ys k x hxe)
    have HOW:=Lib.hid (show wr.ownsRow w.heap.size 5 1 (.slice (some ⟨g1,0,none⟩) L c1) L (u8c (bytesM (ys.take k))) from by
     have hl:(u8c (bytesM (ys.take k))).length=L:=by simp [u8c,bytesM_len,HL.out]; omega
     exact hrow.ownsB hg1 hl)
    subst hA
    have HBEL:=Lib.hid hbel
    have HLK:=Lib.hid hLk
    clear hrow hbel hx hxe hLk
    go_wp2_with (at_builtin; refine wpList_append_any _ rfl (.tmp 40) (.tmp 52) _ rfl w.heap.size 5 i0 _ 1 1 Tryz.underlying56 hi0 hz0 hz1 hz2 rfl (by omega) (.slice (some ⟨g1,0,none⟩) L c1) L _ rfl (owns_alloc HOW.out _) (wr.heap.size+1) (some ⟨wr.heap.size,0,none⟩) 4 4 _ rfl (reads_new4 _ _ _ _ _ _) (one4 _ _ _ _) (by have:=HLK.out; simp only [maxLen]; omega) (by have:=HLK.out; omega) (by have:=HBEL.out.size; simp; omega) ?_; intro v1 w5 hown5 hgrow hat5; obtain⟨g5,c5,rfl,hrow5,hlen5,hge5⟩:=Row.of_any (bytes4_eq hown5 HTK.out (by omega) (by omega) (by omega) (by omega)) (by omega); clear hown5)
    go_roundw
    case rel=>exact⟨k+1,g5,c5,L+4,by omega,by go_num,rfl,by have:=HLK.out; omega,hrow5,hge5,below_grown (Nat.le_refl _) ((HBEL.out).alloc HBEL.out.size _) hgrow (by simp [Value.ownBlock]; exact hg1)⟩
    case measure=>simp [intOf]; omega
   ·obtain rfl:k=n:=by omega
    have HR:=Lib.hid (show Row wr g1 5 c1 (u8c (bytesM ys)) from by rw [← HL.out,List.take_length] at hrow; exact hrow)
    have hLc:L≤c1:=by have:=hrow; obtain⟨_,_,h1,_⟩:=hrow; simp [u8c,bytesM_len,HL.out] at h1; omega
    have HBEL:=Lib.hid hbel
    have hsl1:L-L=0:=by omega
    clear hrow hbel
    by_cases hc:c1=L
    ·subst hc
     go_wp2_with fail
     go_loopw [63] (fun i wr=>i = .int .i64 0∧Row wr g1 5 c1 (u8c (bytesM ys))∧Below w.heap.size w wr) (fun _ _=>0)
     case atStart=>exact⟨rfl,HR.out,HBEL.out⟩
     case round=>
      clear HR HBEL
      obtain⟨rfl,hrow,hbel⟩:=hrel
      have HR:=Lib.hid hrow
      have HBEL:=Lib.hid hbel
      clear hrow hbel
      go_wp2_with fail
      go_ret2
      refine⟨HBEL.out,?_⟩
      rw [if_pos (spareE_zero ys)]
      exact⟨g1,_,by rw [HL.out,Nat.sub_zero,hN4]; rfl,HR.out,hg1⟩
    ·go_wp2_with fail
     go_loopw [63] (fun i wr=>i = .int .i64 0∧Row wr g1 5 c1 (u8c (bytesM ys))∧Below w.heap.size w wr) (fun _ _=>0)
     case atStart=>exact⟨rfl,HR.out,HBEL.out⟩
     case round=>
      clear HR HBEL
      obtain⟨rfl,hrow,hbel⟩:=hrel
      have HR:=Lib.hid hrow
      have HBEL:=Lib.hid hbel
      clear hrow hbel
      go_wp2_with fail
      go_ret2
      refine⟨HBEL.out,?_⟩
      rw [if_pos (spareE_zero ys)]
      exact⟨g1,_,by rw [HL.out,Nat.sub_zero,hN4]; rfl,HR.out,hg1⟩
 ·have hnz2:((n:Int) == 0)=false:=by simp; omega
  have hsp:decide (0<(s:Int))=true:=by simp; omega
  clear hpos hnz
  go_enter Tryz.func120,Tryz.ntmps120
  go_wp2_with fail
  clear hmk
  go_loopw [6,36] (fun b i wr=>∃ (k g1 c1 L:Nat),k≤n∧i = .int .i64 k∧b = .slice (some ⟨g1,0,none⟩) L c1∧L=4*k∧Row wr g1 5 c1 (u8c (bytesM (ys.take k)))∧w.heap.size≤g1∧Below w.heap.size w wr) (fun _ i _=>n-(intOf i).toNat)
  case atStart=>exact⟨0,_,_,_,by omega,rfl,rfl,rfl,hS.out,Nat.le_refl _,HB0.out⟩
  case round=>
   clear hS HB0
   obtain⟨k,g1,c1,L,hk,rfl,rfl,hLk,hrow,hg1,hbel⟩:=hrel
   by_cases hlt:k<n
   ·obtain⟨ad,u0,hA,_,hx,hcell0⟩:=(HRD.out.below (hbel.mono hB)).at_ hlt
    obtain⟨x,hxe,rfl⟩:=u32s_at hx
    have hx32:=HBB.out x (List.mem_of_getElem? hxe)
    have HTK:=Lib.hid (bytesM_take ys k x hxe)
    have HOW:=Lib.hid (show wr.ownsRow w.heap.size 5 1 (.slice (some ⟨g1,0,none⟩) L c1) L (u8c (bytesM (ys.take k))) from by
     have hl:(u8c (bytesM (ys.take k))).length=L:=by simp [u8c,bytesM_len,HL.out]; omega
     exact hrow.ownsB hg1 hl)
    subst hA
    have HBEL:=Lib.hid hbel
    have HLK:=Lib.hid hLk
    clear hrow hbel hx hxe hLk
    go_wp2_with (at_builtin; refine wpList_append_any _ rfl (.tmp 40) (.tmp 52) _ rfl w.heap.size 5 i0 _ 1 1 Tryz.underlying56 hi0 hz0 hz1 hz2 rfl (by omega) (.slice (some ⟨g1,0,none⟩) L c1) L _ rfl (owns_alloc HOW.out _) (wr.heap.size+1) (some ⟨wr.heap.size,0,none⟩) 4 4 _ rfl (reads_new4 _ _ _ _ _ _) (one4 _ _ _ _) (by have:=HLK.out; simp only [maxLen]; omega) (by have:=HLK.out; omega) (by have:=HBEL.out.size; simp; omega) ?_; intro v1 w5 hown5 hgrow hat5; obtain⟨g5,c5,rfl,hrow5,hlen5,hge5⟩:=Row.of_any (bytes4_eq hown5 HTK.out (by omega) (by omega) (by omega) (by omega)) (by omega); clear hown5)
    go_roundw
    case rel=>exact⟨k+1,g5,c5,L+4,by omega,by go_num,rfl,by have:=HLK.out; omega,hrow5,hge5,below_grown (Nat.le_refl _) ((HBEL.out).alloc HBEL.out.size _) hgrow (by simp [Value.ownBlock]; exact hg1)⟩
    case measure=>simp [intOf]; omega
   ·obtain rfl:k=n:=by omega
    obtain rfl:L=N4:=by omega
    have HR:=Lib.hid (show Row wr g1 5 c1 (u8c (bytesM ys)) from by rw [← HL.out,List.take_length] at hrow; exact hrow)
    have hLc:L≤c1:=by have:=hrow; obtain⟨_,_,h1,_⟩:=hrow; simp [u8c,bytesM_len,HL.out] at h1; omega
    have hc63:c1≤9223372036854775807:=by obtain⟨_,_,_,h1,_⟩:=hrow; unfold maxLen at h1; exact h1
    have HBEL:=Lib.hid hbel
    obtain⟨T,hT⟩ :∃ T,L=T+s:=⟨L-s,by omega⟩
    have hT1:(L:Int)-(s:Int)=(T:Int):=by omega
    have hT2:L-T=s:=by omega
    have hT3:T≤L:=by omega
    have hT4:¬ c1=T:=by omega
    have hT5:(T:Int)≤(L:Int):=by omega
    have HT:=Lib.hid hT
    clear hrow hbel hT hLk
    go_wp2_with fail
    go_loopw [63] (fun i wr=>∃ j:Nat,j≤s∧i = .int .i64 j∧(∀ m,m<j→(bytesM ys).getD (T+m) 0=0)∧Row wr g1 5 c1 (u8c (bytesM ys))∧Below w.heap.size w wr) (fun i _=>s-(intOf i).toNat)
    case atStart=>exact⟨0,by omega,rfl,fun m h=>absurd h (by omega),HR.out,HBEL.out⟩
    case round=>
     clear HR HBEL
     obtain⟨j,hj,rfl,hzero,hrow,hbel⟩:=hrel
     have HZ:=Lib.hid hzero
     have HR:=Lib.hid hrow
     have HBEL:=Lib.hid hbel
     by_cases hlt:j<s
     ·have hlen:T+j<(bytesM ys).length:=by rw [bytesM_len,HL.out,hN4,HT.out]; omega
      have hcell:=hrow.cell (i:=T+j) (u:=.int .u8 ((bytesM ys).getD (T+j) 0:Nat)) (by simp [u8c,List.getD_eq_getElem?_getD,List.getElem?_eq_getElem hlen])
      have HBY:=Lib.hid (show ∀ b,(bytesM ys).getD (T+j) 0=b→b=0→∀ m,m<j+1→(bytesM ys).getD (T+m) 0=0 from fun b e1 e2 m hm=>by
       by_cases h:m=j
       ·subst h; rw [e1,e2]
       ·exact hzero m (by omega))
      have HNZ:=Lib.hid (show (bytesM ys).getD (T+j) 0≠0→spareE ys s=10 from fun hne=>by
       unfold spareE
       rw [if_neg]
       intro hall
       rw [List.all_eq_true] at hall
       have hm:(bytesM ys).getD (T+j) 0∈(bytesM ys).drop (4*ys.length-s):=by
        rw [HL.out,hN4,HT.out,Nat.add_sub_cancel]
        rw [List.getD_eq_getElem?_getD,List.getElem?_eq_getElem hlen,Option.getD_some]
        rw [List.mem_drop_iff_getElem]
        exact⟨j,by omega,rfl⟩
       have:=hall _ hm
       simp at this
       exact hne (by simpa [List.getD_eq_getElem?_getD] using this))
      have hji:(j:Int)<(s:Int):=by omega
      clear hzero hrow hbel
      generalize hb:(bytesM ys).getD (T+j) 0=b at *
      have HBB2:=Lib.hid hb
      clear hb hlen
      by_cases hb0:b=0
      ·have hz:=HBY.out b rfl hb0
       have HZ2:=Lib.hid hz
       have hbi:((b:Int) != 0)=false:=by simp; omega
       clear HBY HNZ hz
       go_wp2_with fail
       go_roundw
       case rel=>exact⟨j+1,by omega,by go_num,HZ2.out,HR.out,HBEL.out⟩
       case measure=>simp [intOf]; omega
      ·have hbi:((b:Int) != 0)=true:=by simp; omega
       have HE:=Lib.hid (HNZ.out hb0)
       clear HBY HNZ hb0
       go_wp2_with fail
       go_ret2
       refine⟨HBEL.out,?_⟩
       rw [HE.out,if_neg (by decide)]
       rfl
     ·obtain rfl:j=s:=by omega
      have HE:=Lib.hid (show spareE ys j=0 from by
       unfold spareE
       rw [if_pos]
       rw [List.all_eq_true]
       intro x hx
       rw [HL.out,hN4,HT.out,Nat.add_sub_cancel] at hx
       rw [List.mem_drop_iff_getElem] at hx
       obtain⟨m,hm,rfl⟩:=hx
       rw [bytesM_len,HL.out,hN4,HT.out] at hm
       have:=hzero m (by omega)
       rw [List.getD_eq_getElem?_getD,List.getElem?_eq_getElem (by rw [bytesM_len,HL.out,hN4,HT.out]; omega),Option.getD_some] at this
       simpa using this)
      clear hzero hrow hbel
      go_wp2_with fail
      go_ret2
      refine⟨HBEL.out,?_⟩
      rw [if_pos HE.out]
      exact⟨g1,_,by rw [HL.out,hN4,HT.out,Nat.add_sub_cancel]; rfl,HR.out,hg1⟩
end
end Go.Proofs.YtdoahpflemgaeaaGreatDoor
