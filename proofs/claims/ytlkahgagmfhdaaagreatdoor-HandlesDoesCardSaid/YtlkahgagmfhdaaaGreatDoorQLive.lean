import Derived.Test.YtlkahgagmfhdaaaGreatDoorQMake
import Derived.Test.YtlkahgagmfhdaaaGreatDoorQShow
import Derived.Test.YtlkahgagmfhdaaaGreatDoorQOop
import Derived.Test.YtlkahgagmfhdaaaGreatDoorQText
import Derived.Test.YtlkahgagmfhdaaaGreatDoorQMay
import Derived.Test.YtlkahgagmfhdaaaGreatDoorQAlloc
import Derived.Test.YtlkahgagmfhdaaaGreatDoorQZeros
import Derived.StillTailTactics
import Derived.Deep.RegionLaw
import Derived.Laws.Cells
import Derived.Deep.RegionHeld3
import Derived.BigQuiet
set_option linter.unusedVariables false
set_option linter.unusedSimpArgs false
set_option linter.unusedSectionVars false
namespace Go.Proofs.YtlkahgagmfhdaaaGreatDoor
section
open Go.RowKit
structure Env (w:World):Prop where
 spares:Spares w
 pow:Pow w
theorem Pow.lt {w:World} (h:Pow w):0<w.heap.size:=Spares.lt h
theorem Env.below {w w':World} (E:Env w) (hb:Below w.heap.size w w'):Env w':=⟨E.spares.below hb,E.pow.below hb⟩
theorem Env.far {W:World} (E:Env W) {p:HP} (hn:∀ k,p.has k→W.heap.size≤k):Far p:=fun k hk=>by
 have h1:=hn k hk
 have h2:=E.spares.lt
 have h3:=E.pow.lt
 exact⟨by omega,by omega⟩
structure Live (W w:World) (p:HP) (g:Nat) (h:HM):Prop where
 at_:HAt w p h
 hg:p.g=g
 good:∃ l,h.Good l
 env:Env W
 new:∀ k,p.has k→W.heap.size≤k
 below:Below W.heap.size W w
section
variable {W w w':World} {p p':HP} {g:Nat} {h h':HM}
theorem Live.fit (L:Live W w p g h):h.Fit:=by obtain⟨l,G⟩:=L.good; exact G.fit
theorem Live.heads (L:Live W w p g h):h.Heads:=by obtain⟨l,G⟩:=L.good; exact G.laid.heads
theorem Live.far (L:Live W w p g h):Far p:=L.env.far L.new
theorem Live.envw (L:Live W w p g h):Env w:=L.env.below L.below
theorem Live.after (L:Live W w p g h) (hb:Below w.heap.size w w'):Live W w' p g h:=
 ⟨L.at_.below hb,L.hg,L.good,L.env,L.new,below_top L.below hb⟩
theorem Live.step (L:Live W w p g h) (H:HAt w' p' h') (s:Step p p' w w') (G:∃ l,h'.Good l):Live W w' p' g h':=
 ⟨H,s.g.trans L.hg,G,L.env,fun k hk=>(s.rows k hk).elim (L.new k) (fun hk=>Nat.le_trans L.below.size hk),s.below L.below L.new⟩
theorem Step.row {e:TypeId} {gr c:Nat} {xs:List Value} (s:Step p p' w w') (hr:Row w gr e c xs) (hn:¬ p.has gr):Row w' gr e c xs∧¬ p'.has gr:=
 ⟨hr.same (s.block gr hr.lt hn),fun hh=>by
   rcases s.rows gr hh with hh | hh
   ·exact hn hh
   ·have:=hr.lt; omega⟩
def HM.AllocO (h:HM) (c:Nat) (f n:Int):Nat:=if h.AllocE c f n=0 then 2*h.words.length else 0
theorem HM.AllocV_eq (h:HM) (c:Nat) (f n:Int):h.AllocV c f n = .tuple #[.int .u32 (h.AllocO c f n:Nat),.int .i64 (h.AllocE c f n:Nat)]:=by
 unfold HM.AllocV HM.AllocO HM.AllocE
 by_cases hok:allocOk f n=true
 ·rw [if_pos hok,if_pos hok]; rfl
 ·rw [if_neg hok,if_neg hok]; rfl
def Done (W:World) (p:HP) (g:Nat) (h':HM) (v:Value) (w:World) (e:Ending) (w':World):Prop:=
 ∃ p',e = .returned v∧Live W w' p' g h'∧Step p p' w w'
theorem Live.of_made {v:Value} {d:Ending} (L:Live W w p g h) (G:∃ l,h'.Good l) (H:Made p h' v w d w'):Done W p g h' v w d w':=by
 obtain⟨p',rfl,H',s⟩:=H
 exact⟨p',rfl,L.step H' s G,s⟩
theorem Live.of_deed {E:Nat} {d:Ending} (L:Live W w p g h) (G:∃ l,h'.Good l) (H:Deeds p h' E w d w'):Done W p g h' (.int .i64 E) w d w':=by
 obtain⟨rfl,H',s⟩:=H
 exact⟨p,rfl,L.step H' s G,s⟩
theorem Live.alloc (L:Live W w p g h) (c:Nat) (hc:c<4294967296) (t n:Int):
 Calls Tryz.prog 75 #[.pointer (some ⟨g,0,none⟩),.int .u32 c,.int .i64 t,.int .i64 n] w (Done W p g (h.AllocH c t n) (.tuple #[.int .u32 (h.AllocO c t n:Nat),.int .i64 (h.AllocE c t n:Nat)]) w):=by
 have hh:=Alloc_any L.at_ L.fit L.envw.spares L.far c hc t n
 rw [L.hg,HM.AllocV_eq] at hh
 exact hh.mono fun _ _ H=>L.of_made (by obtain⟨l,G⟩:=L.good; exact G.AllocH c t n hc) H
theorem Live.setRoot (L:Live W w p g h) (i:Int) (v:Nat) (hv:v<4294967296):
 Calls Tryz.prog 77 #[.pointer (some ⟨g,0,none⟩),.int .i64 i,.int .u32 v] w (Done W p g (h.setRootH i v) (.int .i64 (h.setRootE i v:Nat)) w):=by
 have hh:=setRoot_any L.at_ L.fit i v hv
 rw [L.hg] at hh
 exact hh.mono fun _ _ H=>L.of_deed (by obtain⟨l,G⟩:=L.good; exact⟨l,G.setRootH i v hv⟩) H
def Told (v:Value) (w:World) (e:Ending) (w':World):Prop:=e = .returned v∧Below w.heap.size w w'
theorem Live.get (L:Live W w p g h) (o:Nat) (ho:o<4294967296) (i:Int):
 Calls Tryz.prog 175 #[.pointer (some ⟨g,0,none⟩),.int .u32 o,.int .i64 i] w (Told (.tuple #[.int .u32 (h.readN o i [1,4]:Nat),.int .i64 (h.lookE o i [1,4]:Nat)]) w):=by
 have hh:=get_any L.at_ L.fit L.heads L.envw.spares o ho i
 rw [L.hg] at hh
 exact hh
def HM.isE (h:HM) (o:Nat):Nat:=if h.isB o then 0 else 3
def HM.hdO (h:HM) (o:Nat):Hd:=if h.isB o then h.hd (o / 2) else ⟨0,0,0,0,0⟩
theorem HM.headerV_eq (h:HM) (o:Nat):h.headerV o = .tuple #[(h.hdO o).val,.int .i64 (h.isE o:Nat)]:=by
 unfold HM.headerV HM.hdO HM.isE; cases h.isB o <;> rfl
theorem Live.header (L:Live W w p g h) (o:Nat) (ho:o<4294967296):
 Calls Tryz.prog 32 #[.pointer (some ⟨g,0,none⟩),.int .u32 o] w (Told (.tuple #[(h.hdO o).val,.int .i64 (h.isE o:Nat)]) w):=by
 have hh:=Header_any L.at_ L.fit L.heads L.envw.spares o ho
 rw [L.hg,HM.headerV_eq] at hh
 exact hh
def Said (v:Value) (w:World) (e:Ending) (w':World):Prop:=e = .returned v∧w=w'
theorem Live.is (L:Live W w p g h) (o:Nat) (ho:o<4294967296):
 Calls Tryz.prog 85 #[.pointer (some ⟨g,0,none⟩),.int .u32 o] w (Said (.bool (h.isB o)) w):=by
 have hh:=is_any L.at_ L.fit o ho
 rw [L.hg] at hh
 exact hh
theorem Live.size (L:Live W w p g h):Calls Tryz.prog 59 #[.pointer (some ⟨g,0,none⟩)] w (Said (.int .i64 (h.size:Nat)) w):=by
 have hh:=size_any L.at_ L.fit
 rw [L.hg] at hh
 exact hh
theorem Live.top (L:Live W w p g h):Calls Tryz.prog 60 #[.pointer (some ⟨g,0,none⟩)] w (Said (.int .i64 (h.words.length:Nat)) w):=by
 have hh:=top_any L.at_ L.fit
 rw [L.hg] at hh
 exact hh
theorem Live.last (L:Live W w p g h):Calls Tryz.prog 62 #[.pointer (some ⟨g,0,none⟩)] w (Said (.int .u32 (h.last:Nat)) w):=by
 have hh:=last_any L.at_ L.fit
 rw [L.hg] at hh
 exact hh
theorem Live.first (L:Live W w p g h):Calls Tryz.prog 78 #[.pointer (some ⟨g,0,none⟩)] w (Said (.int .u32 (h.objM 1:Nat)) w):=by
 have hh:=first_any L.at_ L.fit
 rw [L.hg] at hh
 exact hh
def HM.rootN (h:HM) (i:Int):Nat:=if rootOk i then h.roots.getD i.toNat 0 else 0
def rootE (i:Int):Nat:=if rootOk i then 0 else 1
theorem Live.root (L:Live W w p g h) (i:Int):Calls Tryz.prog 81 #[.pointer (some ⟨g,0,none⟩),.int .i64 i] w (Said (.tuple #[.int .u32 (h.rootN i:Nat),.int .i64 (rootE i:Nat)]) w):=by
 have hh:=root_any L.at_ L.fit i
 rw [L.hg,show h.rootV i = .tuple #[.int .u32 (h.rootN i:Nat),.int .i64 (rootE i:Nat)] by
  unfold HM.rootV HM.rootN rootE; cases rootOk i <;> rfl] at hh
 exact hh
theorem Live.words (L:Live W w p g h):Calls Tryz.prog 35 #[.pointer (some ⟨g,0,none⟩)] w (NewRow 32 (u32s h.words) w):=by
 have hh:=words_any L.at_ L.fit
 rw [L.hg] at hh
 exact hh
theorem Live.roots (L:Live W w p g h):Calls Tryz.prog 54 #[.pointer (some ⟨g,0,none⟩)] w (NewRow 54 (u32s h.roots) w):=by
 have hh:=roots_any L.at_ L.fit
 rw [L.hg] at hh
 exact hh
end
end
section
open Go.RowKit
theorem HM.Good.load_self {h h0:HM} {l:List Ob} (G:h.Good l) (hs:h0.size=h.size):loadE h0.size h.words h.roots h.last=0∧h0.loadH h.words h.roots h.last=h:=by
 have e:=loadE_ok (size:=h0.size) (ws:=h.words) (rs:=h.roots) (last:=h.last) (by
  have:=G.fit.one; have:=G.fit.room; have:=G.fit.roots
  omega) (by rw [hs]; exact G.loadOk)
 refine⟨e,?_⟩
 unfold HM.loadH
 rw [if_pos e,hs]
 exact G.ofWords.1
end
section
open Go.RowKit
set_option maxHeartbeats 2000000 in
theorem rmay_any (x:Hd) (f:x.Fit) (w:World):
 Calls Tryz.prog 201 #[x.val] w fun e w'=>e = .returned (.bool x.may)∧Below w.heap.size w w':=by
 obtain⟨n,t,s,c,r⟩:=x
 obtain⟨f1,f2,f3,f4,f5⟩:=f
 simp only at f1 f2 f3 f4 f5
 unfold Hd.val
 by_cases h1:65535<n
 ·have HF:=Lib.hid (show Hd.may ⟨n,t,s,c,r⟩=false by simp [Hd.may]; omega)
  go_enter Tryz.func201,Tryz.ntmps201
  go_wp2_with fail
  go_ret
  exact⟨by rw [HF.out]; rfl,(Below.refl _ _).alloc (Nat.le_refl _) _⟩
 by_cases h2:t<1
 ·have HF:=Lib.hid (show Hd.may ⟨n,t,s,c,r⟩=false by simp [Hd.may]; omega)
  go_enter Tryz.func201,Tryz.ntmps201
  go_wp2_with fail
  go_ret
  exact⟨by rw [HF.out]; rfl,(Below.refl _ _).alloc (Nat.le_refl _) _⟩
 by_cases h3:4<t
 ·have HF:=Lib.hid (show Hd.may ⟨n,t,s,c,r⟩=false by simp [Hd.may]; omega)
  go_enter Tryz.func201,Tryz.ntmps201
  go_wp2_with fail
  go_ret
  exact⟨by rw [HF.out]; rfl,(Below.refl _ _).alloc (Nat.le_refl _) _⟩
 by_cases h4:s=0
 ·subst h4
  have HF:=Lib.hid (show Hd.may ⟨n,t,0,c,r⟩=true by simp [Hd.may]; omega)
  go_enter Tryz.func201,Tryz.ntmps201
  go_wp2_with fail
  go_ret
  exact⟨by rw [HF.out]; rfl,(Below.refl _ _).alloc (Nat.le_refl _) _⟩
 have h4':((s:Int) == 0)=false:=by simpa using h4
 by_cases h5:t=2
 ·subst h5
  by_cases h6:n=0
  ·subst h6
   have HF:=Lib.hid (show Hd.may ⟨0,2,s,c,r⟩=false by simp [Hd.may,h4])
   clear h4
   go_enter Tryz.func201,Tryz.ntmps201
   go_wp2_with fail
   go_ret
   exact⟨by rw [HF.out]; rfl,(Below.refl _ _).alloc (Nat.le_refl _) _⟩
  ·have HF:=Lib.hid (show Hd.may ⟨n,2,s,c,r⟩=true by simp [Hd.may]; omega)
   have h7:(0:Int)<n:=by omega
   clear h4 h6
   go_enter Tryz.func201,Tryz.ntmps201
   go_wp2_with fail
   go_ret
   exact⟨by rw [HF.out]; simp; omega,(Below.refl _ _).alloc (Nat.le_refl _) _⟩
 ·have HF:=Lib.hid (show Hd.may ⟨n,t,s,c,r⟩=false by simp [Hd.may]; omega)
  have h5':((t:Int) == 2)=false:=by simp; omega
  clear h4 h5
  go_enter Tryz.func201,Tryz.ntmps201
  go_wp2_with fail
  go_ret
  exact⟨by rw [HF.out]; rfl,(Below.refl _ _).alloc (Nat.le_refl _) _⟩
set_option maxHeartbeats 1000000 in
theorem rpack_any (x:Hd) (f:x.Fit) (w:World):
 Calls Tryz.prog 146 #[x.val] w fun e w'=>e = .returned x.packed∧Below w.heap.size w w':=by
 obtain⟨n,t,s,c,r⟩:=x
 obtain⟨f1,f2,f3,f4,f5⟩:=f
 simp only at f1 f2 f3 f4 f5
 have HF:=Lib.hid (show Hd.packed ⟨n,t,s,c,r⟩ = .agg #[.int .u32 ((n:Int)+(t:Int)*16777216+(s:Int)*134217728),.int .u32 c,.int .u32 r] by simp [Hd.packed,Hd.w0])
 unfold Hd.val
 go_enter Tryz.func146,Tryz.ntmps146
 go_wp2_with fail
 refine bodyPost_ret (v:=.agg #[.int .u32 ((n:Int)+(t:Int)*16777216+(s:Int)*134217728),.int .u32 c,.int .u32 r]) (by simp [results,Tryz.results146,go_sem]) rfl ⟨by rw [HF.out],?_⟩
 exact ((Below.refl _ _).alloc (Nat.le_refl _) _).alloc (by simp) _
def unpackV (a b c:Nat):Value:=.tuple #[if okhd a b c then (unhd a b c).val else .agg #[.int .i64 0,.int .i64 0,.int .i64 0,.int .u32 0,.int .u32 0],.bool (okhd a b c)]
set_option maxHeartbeats 2000000 in
theorem runpack_any (a b c:Nat) (ha:a<4294967296) (hb:b<4294967296) (hc:c<4294967296) (w:World):
 Calls Tryz.prog 148 #[.agg #[.int .u32 a,.int .u32 b,.int .u32 c]] w (Told (unpackV a b c) w):=by
 have hx:(unhd a b c).val = .agg #[.int .i64 ((a:Int)%16777216),.int .i64 ((a:Int) / 16777216%8),.int .i64 ((a:Int) / 134217728%4),.int .u32 b,.int .u32 c]:=rfl
 have HX:=Lib.hid hx
 have HF:=Lib.hid (unhd_fit a b c hb hc)
 by_cases hlt:a<536870912
 ·have hd:(((a:Int) / 536870912) != 0)=false:=by simp; omega
  cases hok:(unhd a b c).may
  ·have HV:=Lib.hid (show unpackV a b c = .tuple #[.agg #[.int .i64 0,.int .i64 0,.int .i64 0,.int .u32 0,.int .u32 0],.bool false] by simp [unpackV,okhd,hok])
   have HM:=Lib.hid (fun w=>(rmay_any _ HF.out w))
   rw [HX.out,hok] at HM
   clear hok hx hlt
   go_enter Tryz.func148,Tryz.ntmps148
   go_wp2_with fail
   generalize hW:((w.alloc _).alloc _).alloc _=W
   have hbW:Below w.heap.size w W:=by rw [← hW]; exact (((Below.refl _ _).alloc (Nat.le_refl _) _).alloc (by simp) _).alloc (by simp; omega) _
   have B1:Blk W (w.heap.size+1) 75 #[.int .i64 0,.int .i64 0,.int .i64 0,.int .u32 0,.int .u32 0]:=by
    rw [← hW]
    have:=(Blk.new (w.alloc (.cells #[.int .u32 a,.int .u32 b,.int .u32 c] 248)) 75 #[.int .i64 0,.int .i64 0,.int .i64 0,.int .u32 0,.int .u32 0]).alloc (.cells #[.int .i64 ((a:Int)%16777216),.int .i64 ((a:Int) / 16777216%8),.int .i64 ((a:Int) / 134217728%4),.int .u32 b,.int .u32 c] 75)
    rw [World.size_alloc] at this
    exact this
   have B2:Blk W (w.heap.size+1+1) 75 #[.int .i64 ((a:Int)%16777216),.int .i64 ((a:Int) / 16777216%8),.int .i64 ((a:Int) / 134217728%4),.int .u32 b,.int .u32 c]:=by
    rw [← hW]
    have:=Blk.new ((w.alloc (.cells #[.int .u32 a,.int .u32 b,.int .u32 c] 248)).alloc (.cells #[.int .i64 0,.int .i64 0,.int .i64 0,.int .u32 0,.int .u32 0] 75)) 75 #[.int .i64 ((a:Int)%16777216),.int .i64 ((a:Int) / 16777216%8),.int .i64 ((a:Int) / 134217728%4),.int .u32 b,.int .u32 c]
    rw [World.size_alloc,World.size_alloc] at this
    exact this
   clear hW
   refine (HM.out _).mono ?_
   rintro e w1 ⟨rfl,hb1⟩
   replace B1:=B1.below hb1 B1.lt
   replace B2:=B2.below hb1 B2.lt
   have hb:=below_top hbW hb1
   clear hb1 hbW
   obtain⟨a0,a1,a2,a3,a4⟩:=B2.cells5
   obtain⟨d0,d1,d2,d3,d4⟩:=B1.cells5
   have z1:=B1.fz
   have hz1:=B1.lt
   go_wp2_with fail
   refine bodyPost_ret (v:=.tuple #[.agg #[.int .i64 0,.int .i64 0,.int .i64 0,.int .u32 0,.int .u32 0],.bool false]) (by simp [results,Tryz.results148,go_sem,d0,d1,d2,d3,d4]) rfl ⟨by rw [HV.out],?_⟩
   exact ((((hb.setCell (by simp) _).setCell (by simp) _).setCell (by simp) _).setCell (by simp) _).setCell (by simp) _
  ·have HV:=Lib.hid (show unpackV a b c = .tuple #[(unhd a b c).val,.bool true] by simp [unpackV,okhd,hok,hlt])
   have HM:=Lib.hid (fun w=>(rmay_any _ HF.out w))
   rw [HX.out,hok] at HM
   clear hok hx hlt
   go_enter Tryz.func148,Tryz.ntmps148
   go_wp2_with fail
   generalize hW:((w.alloc _).alloc _).alloc _=W
   have hbW:Below w.heap.size w W:=by rw [← hW]; exact (((Below.refl _ _).alloc (Nat.le_refl _) _).alloc (by simp) _).alloc (by simp; omega) _
   have B1:Blk W (w.heap.size+1) 75 #[.int .i64 0,.int .i64 0,.int .i64 0,.int .u32 0,.int .u32 0]:=by
    rw [← hW]
    have:=(Blk.new (w.alloc (.cells #[.int .u32 a,.int .u32 b,.int .u32 c] 248)) 75 #[.int .i64 0,.int .i64 0,.int .i64 0,.int .u32 0,.int .u32 0]).alloc (.cells #[.int .i64 ((a:Int)%16777216),.int .i64 ((a:Int) / 16777216%8),.int .i64 ((a:Int) / 134217728%4),.int .u32 b,.int .u32 c] 75)
    rw [World.size_alloc] at this
    exact this
   have B2:Blk W (w.heap.size+1+1) 75 #[.int .i64 ((a:Int)%16777216),.int .i64 ((a:Int) / 16777216%8),.int .i64 ((a:Int) / 134217728%4),.int .u32 b,.int .u32 c]:=by
    rw [← hW]
    have:=Blk.new ((w.alloc (.cells #[.int .u32 a,.int .u32 b,.int .u32 c] 248)).alloc (.cells #[.int .i64 0,.int .i64 0,.int .i64 0,.int .u32 0,.int .u32 0] 75)) 75 #[.int .i64 ((a:Int)%16777216),.int .i64 ((a:Int) / 16777216%8),.int .i64 ((a:Int) / 134217728%4),.int .u32 b,.int .u32 c]
    rw [World.size_alloc,World.size_alloc] at this
    exact this
   clear hW
   refine (HM.out _).mono ?_
   rintro e w1 ⟨rfl,hb1⟩
   replace B1:=B1.below hb1 B1.lt
   replace B2:=B2.below hb1 B2.lt
   have hb:=below_top hbW hb1
   clear hb1 hbW
   obtain⟨a0,a1,a2,a3,a4⟩:=B2.cells5
   obtain⟨d0,d1,d2,d3,d4⟩:=B1.cells5
   have z1:=B1.fz
   have hz1:=B1.lt
   go_wp2_with fail
   refine bodyPost_ret (v:=.tuple #[.agg #[.int .i64 ((a:Int)%16777216),.int .i64 ((a:Int) / 16777216%8),.int .i64 ((a:Int) / 134217728%4),.int .u32 b,.int .u32 c],.bool true]) (by simp [results,Tryz.results148,go_sem,d0,d1,d2,d3,d4]) rfl ⟨by rw [HV.out]; rw [HX.out],?_⟩
   exact ((((hb.setCell (by simp) _).setCell (by simp) _).setCell (by simp) _).setCell (by simp) _).setCell (by simp) _
 ·have hd:(((a:Int) / 536870912) != 0)=true:=by simp; omega
  have HV:=Lib.hid (show unpackV a b c = .tuple #[.agg #[.int .i64 0,.int .i64 0,.int .i64 0,.int .u32 0,.int .u32 0],.bool false] by simp [unpackV,okhd,hlt])
  clear hx hlt
  go_enter Tryz.func148,Tryz.ntmps148
  go_wp2_with fail
  refine bodyPost_ret (v:=.tuple #[.agg #[.int .i64 0,.int .i64 0,.int .i64 0,.int .u32 0,.int .u32 0],.bool false]) (by simp [results,Tryz.results148,go_sem]) rfl ⟨by rw [HV.out],?_⟩
  exact (((Below.refl _ _).alloc (Nat.le_refl _) _).alloc (by simp) _).alloc (by simp; omega) _
end
section
open Go.RowKit
end
section
open Go.RowKit
end
section
open Go.RowKit
theorem below_alloc1 {W w:World} {o:Obj} (h:Below W.heap.size W w):Below W.heap.size W (w.alloc o):=h.alloc h.size o
theorem below_set5 {W w:World} {a b c d e:Value} {g:Nat} (h:Below W.heap.size W w) (hg:W.heap.size≤g:=by simp):Below W.heap.size W (((((w.setCell ⟨g,0,none⟩ a).setCell ⟨g,1,none⟩ b).setCell ⟨g,2,none⟩ c).setCell ⟨g,3,none⟩ d).setCell ⟨g,4,none⟩ e):=
 ((((h.setCell (p:=⟨g,0,none⟩) hg _).setCell (p:=⟨g,1,none⟩) hg _).setCell (p:=⟨g,2,none⟩) hg _).setCell (p:=⟨g,3,none⟩) hg _).setCell (p:=⟨g,4,none⟩) hg _
theorem begin_one (b:Bool):(((if b=true then 1 else 0:Int)) == 1)=b:=by cases b <;> rfl
section
variable {w:World} {p:HP} {h:HM} (R:RAt w p h) (f:h.Fit)
include R f
theorem ris_any (o:Nat) (ho:o<4294967296):
 Calls Tryz.prog 182 #[ptr p.g,.int .u32 o] w (Said (.bool (h.isB o)) w):=by
 have c4:=R.c4
 have hlen:=f.marks
 have hroom:=f.room
 have hhi:=f.hi
 unfold ptr
 by_cases h0:o=0
 ·subst h0
  have HF:=Lib.hid (show h.isB 0=false by simp [HM.isB,objB,kindM])
  go_enter Tryz.func182,Tryz.ntmps182
  go_wp2_with fail
  go_ret
  exact⟨by rw [HF.out]; rfl,rfl⟩
 have hb:((o:Int) != 0)=true:=by simpa using h0
 by_cases h1:o%2=1
 ·have HF:=Lib.hid (show h.isB o=false by simp [HM.isB,objB,kindM,h0,h1])
  have hb2:((o:Int)%2 == 0)=false:=by simp; omega
  clear h0 h1
  go_enter Tryz.func182,Tryz.ntmps182
  go_wp2_with fail
  go_ret
  exact⟨by rw [HF.out]; rfl,rfl⟩
 have hb2:((o:Int)%2 == 0)=true:=by simp; omega
 have hk:objB o=true:=(objB_iff o).2 ⟨h0,by omega⟩
 by_cases hl:o / 2<h.starts.length
 ·have hcell:=R.mark hl
  have HF:=Lib.hid (show h.isB o=h.starts.getD (o / 2) false by simp [HM.isB,hk])
  generalize h.starts.getD (o / 2) false=b at *
  have hq:((o:Int) / 2)=((o / 2:Nat):Int):=by omega
  generalize o / 2=q at *
  have hlt:(q:Int)<(h.starts.length:Int):=by omega
  have h1b:=begin_one b
  clear hk h0 h1
  cases b
  all_goals
   go_enter Tryz.func182,Tryz.ntmps182
   go_wp2_with fail
   go_ret
   exact⟨by rw [HF.out]; rfl,rfl⟩
 ·have HF:=Lib.hid (show h.isB o=false by rw [HM.isB,List.getD_eq_getElem?_getD,List.getElem?_eq_none (by omega)]; simp)
  have hq:((o:Int) / 2)=((o / 2:Nat):Int):=by omega
  generalize o / 2=q at *
  have hlt:(h.starts.length:Int)≤(q:Int):=by omega
  clear hk h0 h1
  go_enter Tryz.func182,Tryz.ntmps182
  go_wp2_with fail
  go_ret
  exact⟨by rw [HF.out]; rfl,rfl⟩
theorem risclass_any (o:Nat) (ho:o<4294967296):
 Calls Tryz.prog 159 #[ptr p.g,.int .u32 o] w (Said (.bool (h.clsB o)) w):=by
 have HI:=Lib.hid (ris_any R f o ho)
 unfold ptr at HI ⊢
 by_cases h0:o=0
 ·have HF:=Lib.hid (show h.clsB o=true by simp [HM.clsB,h0])
  have hb:((o:Int) == 0)=true:=by simp; omega
  clear h0
  go_enter Tryz.func159,Tryz.ntmps159
  go_wp2_with fail
  go_ret
  exact⟨by rw [HF.out]; rfl,rfl⟩
 ·have HF:=Lib.hid (show h.clsB o=h.isB o by simp [HM.clsB,h0])
  have hb:((o:Int) == 0)=false:=by simp; omega
  generalize h.isB o=b at *
  clear h0
  go_enter Tryz.func159,Tryz.ntmps159
  go_wp2_with fail
  refine HI.out.mono ?_
  rintro e w1 ⟨rfl,rfl⟩
  go_wp2_with fail
  go_ret
  exact⟨by rw [HF.out]; rfl,rfl⟩
theorem rvalb_any (o:Nat) (ho:o<4294967296):
 Calls Tryz.prog 163 #[ptr p.g,.int .u32 o] w (Said (.bool (h.valB o)) w):=by
 have HI:=Lib.hid (ris_any R f o ho)
 unfold ptr at HI ⊢
 by_cases h0:o=0
 ·have HF:=Lib.hid (show h.valB o=true by simp [HM.valB,objB,kindM,h0])
  have hb:((o:Int) == 0)=true:=by simp; omega
  clear h0
  go_enter Tryz.func163,Tryz.ntmps163
  go_wp2_with fail
  go_ret
  exact⟨by rw [HF.out]; rfl,rfl⟩
 have hb:((o:Int) == 0)=false:=by simp; omega
 by_cases h1:o%2=1
 ·have HF:=Lib.hid (show h.valB o=true by simp [HM.valB,objB,kindM,h0,h1])
  have hb2:((o:Int)%2 == 1)=true:=by simp; omega
  clear h0 h1
  go_enter Tryz.func163,Tryz.ntmps163
  go_wp2_with fail
  go_ret
  exact⟨by rw [HF.out]; rfl,rfl⟩
 ·have HF:=Lib.hid (show h.valB o=h.isB o by simp [HM.valB,objB,kindM,h0,h1])
  have hb2:((o:Int)%2 == 1)=false:=by simp; omega
  generalize h.isB o=b at *
  clear h0 h1
  go_enter Tryz.func163,Tryz.ntmps163
  go_wp2_with fail
  refine HI.out.mono ?_
  rintro e w1 ⟨rfl,rfl⟩
  go_wp2_with fail
  go_ret
  exact⟨by rw [HF.out]; rfl,rfl⟩
set_option maxHeartbeats 2000000 in
set_option maxRecDepth 100000 in
theorem rheader_any (o:Nat) (ho:o<4294967296) (hd:h.hdAt (o / 2)):
 Calls Tryz.prog 152 #[ptr p.g,.int .u32 o] w (Told (h.hd (o / 2)).val w):=by
 have hb0:∀ o,Below w.heap.size w (w.alloc o):=fun o=>(Below.refl _ _).alloc (Nat.le_refl _) _
 have B0:=R.1.alloc (.cells #[.int .i64 0,.int .i64 0,.int .i64 0,.int .u32 0,.int .u32 0] 75)
 have R':=R.below (hb0 (.cells #[.int .i64 0,.int .i64 0,.int .i64 0,.int .u32 0,.int .u32 0] 75))
 have c1:=R'.c1
 have hroom:=f.room
 have hhi:=f.hi
 have hd1:=hd.1
 have hd2:=hd.2
 have hw0:=R'.word (i:=o / 2) (by omega)
 have hw1:=R'.word (i:=o / 2+1) (by omega)
 have hw2:=R'.word (i:=o / 2+2) (by omega)
 have HU:=Lib.hid (fun w=>runpack_any (h.w (o / 2)) (h.w (o / 2+1)) (h.w (o / 2+2)) (f.word _) (f.word _) (f.word _) w)
 have HV:=Lib.hid (show unpackV (h.w (o / 2)) (h.w (o / 2+1)) (h.w (o / 2+2)) = .tuple #[(h.hd (o / 2)).val,.bool true] by unfold unpackV; rw [hd2]; rfl)
 rw [HV.out] at HU
 change _=some (Value.int .u32 ((h.w (o / 2):Nat):Int)) at hw0
 change _=some (Value.int .u32 ((h.w (o / 2+1):Nat):Int)) at hw1
 change _=some (Value.int .u32 ((h.w (o / 2+2):Nat):Int)) at hw2
 have hq:((o:Int) / 2)=((o / 2:Nat):Int):=by omega
 have HX:=Lib.hid (show (h.hd (o / 2)).val = .agg #[.int .i64 (h.hd (o / 2)).size,.int .i64 (h.hd (o / 2)).fmt,.int .i64 (h.hd (o / 2)).spare,.int .u32 (h.hd (o / 2)).cls,.int .u32 (h.hd (o / 2)).ser] from rfl)
 generalize o / 2=q at *
 generalize h.w q=x0 at *
 generalize h.w (q+1)=x1 at *
 generalize h.w (q+2)=x2 at *
 have hlt0:(q:Int)<(h.words.length:Int):=by omega
 have hlt1:(q:Int)+1<(h.words.length:Int):=by omega
 have hlt2:(q:Int)+2<(h.words.length:Int):=by omega
 have e1:IntKind.i64.wrap ((q:Int)+1)=(q:Int)+1:=IntWalk.i64_in _ (by omega)
 have e2:IntKind.i64.wrap ((q:Int)+2)=(q:Int)+2:=IntWalk.i64_in _ (by omega)
 have p1:0≤(q:Int)+1:=by omega
 have p2:0≤(q:Int)+2:=by omega
 have t1:((q:Int)+1).toNat=q+1:=by omega
 have t2:((q:Int)+2).toNat=q+2:=by omega
 have hg0:=R.1.lt
 clear R R' hd hd1 hd2 hb0 HV
 generalize h.hd q=x at *
 unfold ptr
 go_enter Tryz.func152,Tryz.ntmps152
 go_wp2_with fail
 generalize hW:w.alloc _=W
 rw [hW] at c1 hw0 hw1 hw2 B0
 have hbW:Below w.heap.size w W:=by rw [← hW]; exact (Below.refl _ _).alloc (Nat.le_refl _) _
 have BR:Blk W w.heap.size 75 #[.int .i64 0,.int .i64 0,.int .i64 0,.int .u32 0,.int .u32 0]:=by rw [← hW]; exact Blk.new _ _ _
 clear hW B0
 have KC:=Lib.hid (show ∀ W',Below W.heap.size W W'→W'.cell? ⟨p.g,1,none⟩=some (.slice (some ⟨p.gw,0,none⟩) h.words.length p.cw)∧W'.cell? ⟨p.gw,q,none⟩=some (.int .u32 (x0:Int))∧W'.cell? ⟨p.gw,q+1,none⟩=some (.int .u32 (x1:Int))∧W'.cell? ⟨p.gw,q+2,none⟩=some (.int .u32 (x2:Int)) from fun W' hb=>
  ⟨(hb.cell (World.block_lt_of_cell? _ _ c1)).trans c1,(hb.cell (World.block_lt_of_cell? _ _ hw0)).trans hw0,(hb.cell (World.block_lt_of_cell? _ _ hw1)).trans hw1,(hb.cell (World.block_lt_of_cell? _ _ hw2)).trans hw2⟩)
 have HUA:=Lib.hid (show Calls Tryz.prog 148 #[.agg #[.int .u32 x0,.int .u32 x1,.int .u32 x2]] W.drew fun e w1=>e = .returned (.tuple #[.agg #[.int .i64 x.size,.int .i64 x.fmt,.int .i64 x.spare,.int .u32 x.cls,.int .u32 x.ser],.bool true])∧Below W.heap.size W w1 from
  by rw [← HX.out]; exact (HU.out _).mono fun _ _ ⟨h1,h2⟩=>⟨h1,below_top (below_drew (Below.refl _ _)) h2⟩)
 have HUB:=Lib.hid (show Calls Tryz.prog 148 #[.agg #[.int .u32 x0,.int .u32 x1,.int .u32 x2]] (W.alloc (.cells #[.int .i64 0,.int .i64 0,.int .i64 0,.int .u32 0,.int .u32 0] 75)).drew fun e w1=>e = .returned (.tuple #[.agg #[.int .i64 x.size,.int .i64 x.fmt,.int .i64 x.spare,.int .u32 x.cls,.int .u32 x.ser],.bool true])∧Below W.heap.size W w1∧Blk w1 W.heap.size 75 #[.int .i64 0,.int .i64 0,.int .i64 0,.int .u32 0,.int .u32 0] from
  by rw [← HX.out]; exact (HU.out _).mono fun _ _ ⟨h1,h2⟩=>⟨h1,below_top (below_drew (below_alloc1 (Below.refl _ _))) h2,((Blk.new W _ _).drew).below h2 (by simp [World.drew])⟩)
 have hb0:=Below.refl W.heap.size W
 have hn1:W.heap.size≠p.gw:=by have:=World.block_lt_of_cell? _ _ hw0; simp only at this; omega
 have hn2:W.heap.size≠p.g:=by have:=World.block_lt_of_cell? _ _ c1; simp only at this; omega
 go_cut [6] (fun v wx=>∃ g,v=ptr g∧Below W.heap.size W wx∧Blk wx g 75 #[.int .i64 x.size,.int .i64 x.fmt,.int .i64 x.spare,.int .u32 x.cls,.int .u32 x.ser]∧W.heap.size≤g)
 case first=>
  go_region_held3 (fun w'=>w'.cell? ⟨p.g,1,none⟩=some (.slice (some ⟨p.gw,0,none⟩) h.words.length p.cw)∧w'.cell? ⟨p.gw,q,none⟩=some (.int .u32 (x0:Int))∧w'.cell? ⟨p.gw,q+1,none⟩=some (.int .u32 (x1:Int))∧w'.cell? ⟨p.gw,q+2,none⟩=some (.int .u32 (x2:Int)))
   (first | with_reducible exact KC.out _ hb0 | with_reducible exact KC.out _ (Below.drew hb0) | with_reducible exact KC.out _ (below_alloc1 hb0) | with_reducible exact KC.out _ (Below.drew (below_alloc1 hb0)) | with_reducible exact KC.out _ hk | with_reducible exact KC.out _ (below_alloc1 hk) | with_reducible exact KC.out _ (below_set5 hk (Nat.le_refl _)))
   (first
     | (go_at_call 148; (with_reducible refine HUA.out.mono ?_); rintro e w1 ⟨rfl,hk⟩)
     | (go_at_call 148; (with_reducible refine HUB.out.mono ?_); rintro e w1 ⟨rfl,hk,hB6⟩; obtain⟨g0,g1,g2,g3,g4⟩:=hB6.cells5; have hgz:=hB6.fz; have hgl:=hB6.lt))
  all_goals go_wp2_with fail
  all_goals go_meet
  ·exact ⟨_,rfl,below_alloc1 hk,Blk.new _ _ _,hk.size⟩
  ·exact ⟨_,rfl,below_set5 hk (Nat.le_refl _),hB6.setAll5 _ _ _ _ _,Nat.le_refl _⟩
 case rest=>
  obtain⟨gx,rfl,hbc,BX,hgx⟩:=hcut
  have BR':=BR.below hbc BR.lt
  have hb:=hbW.trans (hbc.mono hbW.size)
  clear KC HUA HUB hb0 hbc HU hw0 hw1 hw2 c1 BR
  obtain⟨d0,d1,d2,d3,d4⟩:=BR'.cells5
  obtain⟨b0,b1,b2,b3,b4⟩:=BX.cells5
  have z1:=BR'.fz
  have hz:=BR'.lt
  unfold ptr
  go_wp2_with fail
  refine bodyPost_ret (v:=.agg #[.int .i64 x.size,.int .i64 x.fmt,.int .i64 x.spare,.int .u32 x.cls,.int .u32 x.ser]) (by simp [results,Tryz.results152,go_sem,d0,d1,d2,d3,d4]) rfl ⟨by rw [HX.out],?_⟩
  exact (((((hb.setCell (by simp) _).setCell (by simp) _).setCell (by simp) _).setCell (by simp) _).setCell (by simp) _)
end
end
section
open Go.RowKit
def HM.placeV (h:HM) (o:Nat) (i:Int) (F:Nat) (fs:List Nat):Value:=
 .tuple #[.int .i64 ((if h.lookE o i fs=0 then o / 2+3+(if F=2 then i.toNat / 4 else i.toNat) else 0:Nat):Int),.int .i64 (h.lookE o i fs)]
theorem fld1:∀ (a b c d e:Value) (w:World),(Instr.field 75 (.agg #[a,b,c,d,e]) 1).run Tryz.prog w = .ok b w:=fun a b c d e w=>by kernel_rfl
theorem fld0:∀ (a b c d e:Value) (w:World),(Instr.field 75 (.agg #[a,b,c,d,e]) 0).run Tryz.prog w = .ok a w:=fun a b c d e w=>by kernel_rfl
theorem contains_cases {F t:Nat} {fs:List Nat} (hf:(F=1∧fs=[1,4])∨(F=2∧fs=[2])∨(F=3∧fs=[3])):
 (fs.contains t=true∧t=F)∨(fs.contains t=true∧t≠F∧t=4∧F=1)∨(fs.contains t=false∧t≠F∧t≠4)∨(fs.contains t=false∧t≠F∧t=4∧F≠1):=by
 rcases hf with ⟨rfl,rfl⟩ | ⟨rfl,rfl⟩ | ⟨rfl,rfl⟩
 ·by_cases h1:t=1
  ·subst h1; exact .inl ⟨by decide,rfl⟩
  ·by_cases h4:t=4
   ·subst h4; exact .inr (.inl ⟨by decide,by decide,rfl,rfl⟩)
   ·exact .inr (.inr (.inl ⟨by simp [h1,h4],h1,h4⟩))
 ·by_cases h1:t=2
  ·subst h1; exact .inl ⟨by decide,rfl⟩
  ·by_cases h4:t=4
   ·subst h4; exact .inr (.inr (.inr ⟨by decide,by decide,rfl,by decide⟩))
   ·exact .inr (.inr (.inl ⟨by simp [h1],h1,h4⟩))
 ·by_cases h1:t=3
  ·subst h1; exact .inl ⟨by decide,rfl⟩
  ·by_cases h4:t=4
   ·subst h4; exact .inr (.inr (.inr ⟨by decide,by decide,rfl,by decide⟩))
   ·exact .inr (.inr (.inl ⟨by simp [h1],h1,h4⟩))
theorem hd_parts {h:HM} (f:h.Fit) (i:Nat) (hi:h.hdAt i):(h.hd i).len<4294967296∧((h.hd i).fmt=2→(h.hd i).spare≤4*(h.hd i).size)∧(h.hd i).size<16777216∧(h.hd i).fmt<8∧(h.hd i).spare<4:=by
 have hx:=HM.hd_fit f i
 refine⟨?_,hi.sane,hx.size,hx.fmt,hx.spare⟩
 have:=hx.size
 unfold Hd.len
 split <;> omega
section
variable {w:World} {p:HP} {h:HM} (R:RAt w p h) (f:h.Fit) (o:Nat) (ho:o<4294967296)
include R f ho
theorem rlen_any (hd:h.hdAt (o / 2)):Calls Tryz.prog 153 #[ptr p.g,.int .u32 o] w (Told (.int .i64 (h.hd (o / 2)).len) w):=by
 have HH:=Lib.hid (rheader_any R f o ho hd)
 obtain⟨h1,h2,h3,h4,h5⟩:=hd_parts f _ hd
 have HX:=Lib.hid (show (h.hd (o / 2)).val = .agg #[.int .i64 (h.hd (o / 2)).size,.int .i64 (h.hd (o / 2)).fmt,.int .i64 (h.hd (o / 2)).spare,.int .u32 (h.hd (o / 2)).cls,.int .u32 (h.hd (o / 2)).ser] from rfl)
 clear hd
 generalize h.hd (o / 2)=x at *
 unfold ptr at HH ⊢
 by_cases hf:x.fmt=2
 ·have HL:=Lib.hid (show ((x.len:Nat):Int)=4*(x.size:Int)-x.spare by have:=h2 hf; unfold Hd.len; rw [if_pos hf]; omega)
  have hq:((x.fmt:Int) == 2)=true:=by simp; omega
  clear h2 hf h1
  go_enter Tryz.func153,Tryz.ntmps153
  go_wp2_with fail
  refine HH.out.mono ?_
  rintro e w1 ⟨rfl,hb1⟩
  rw [HX.out]
  go_wp2_with fail
  go_ret
  exact⟨by rw [HL.out]; rfl,hb1.alloc hb1.size _⟩
 ·have HL:=Lib.hid (show x.len=x.size by unfold Hd.len; rw [if_neg hf])
  have hq:((x.fmt:Int) == 2)=false:=by simp; omega
  clear h2 hf h1
  go_enter Tryz.func153,Tryz.ntmps153
  go_wp2_with fail
  refine HH.out.mono ?_
  rintro e w1 ⟨rfl,hb1⟩
  rw [HX.out]
  go_wp2_with fail
  go_ret
  exact⟨by rw [HL.out]; rfl,hb1.alloc hb1.size _⟩
set_option maxRecDepth 100000 in
set_option maxHeartbeats 2000000 in
theorem rplace_any (hh:h.Heads) (i:Int) (F:Nat) (fs:List Nat) (hF:(F=1∧fs=[1,4])∨(F=2∧fs=[2])∨(F=3∧fs=[3])) (hi1:i≤9223372036854775807):
 Calls Tryz.prog 186 #[ptr p.g,.int .u32 o,.int .i64 F,.int .i64 i] w (Told (h.placeV o i F fs) w):=by
 have HI:=Lib.hid (ris_any R f o ho)
 have hfl:=fld1
 cases hi:h.isB o
 ·have HV:=Lib.hid (show h.placeV o i F fs = .tuple #[.int .i64 0,.int .i64 3] by simp [HM.placeV,HM.lookE,hi])
  rw [hi] at HI
  clear hi hF
  unfold ptr at HI ⊢
  go_enter Tryz.func186,Tryz.ntmps186
  go_wp2_with fail
  refine HI.out.mono ?_
  rintro e w1 ⟨rfl,rfl⟩
  go_wp2_with fail
  go_ret2
  exact⟨by rw [HV.out]; rfl,Below.refl _ _⟩
 ·have hd:=HM.isB_hd hh hi
  have HH:=Lib.hid (rheader_any R f o ho hd)
  have HL:=Lib.hid (fun w' (hb:Below w.heap.size w w')=>rlen_any (R.below hb) f o ho hd)
  obtain⟨g1,g2,g3,g4,g5⟩:=hd_parts f _ hd
  have HE:=Lib.hid (show h.lookE o i fs=if fs.contains (h.hd (o / 2)).fmt=false then 21 else if i<0∨((h.hd (o / 2)).len:Int)≤i then 1 else 0 by simp [HM.lookE,hi])
  have HV:=Lib.hid (show h.placeV o i F fs = .tuple #[.int .i64 ((if h.lookE o i fs=0 then o / 2+3+(if F=2 then i.toNat / 4 else i.toNat) else 0:Nat):Int),.int .i64 (h.lookE o i fs)] from rfl)
  rw [HE.out] at HV
  rw [hi] at HI
  have HX:=Lib.hid (show (h.hd (o / 2)).val = .agg #[.int .i64 (h.hd (o / 2)).size,.int .i64 (h.hd (o / 2)).fmt,.int .i64 (h.hd (o / 2)).spare,.int .u32 (h.hd (o / 2)).cls,.int .u32 (h.hd (o / 2)).ser] from rfl)
  have hcc:=contains_cases (t:=(h.hd (o / 2)).fmt) hF
  have hF3:F≤3:=by omega
  clear hd hi HE g2 hF hh
  have hq:((o:Int) / 2)=((o / 2:Nat):Int):=by omega
  have hq2:o / 2<2147483648:=by omega
  generalize h.hd (o / 2)=x at *
  generalize o / 2=q at *
  unfold ptr at HI HH HL ⊢
  rw [HX.out] at HH
  have bad:∀ (t4:Prop),(fs.contains x.fmt=false∧x.fmt≠F∧t4)→Hid (h.placeV o i F fs = .tuple #[.int .i64 0,.int .i64 21]):=fun _ ⟨hc,_,_⟩=>Lib.hid (by rw [HV.out,hc]; simp)
  have good:fs.contains x.fmt=true→Hid (h.placeV o i F fs = .tuple #[.int .i64 ((if (if i<0∨(x.len:Int)≤i then 1 else 0)=0 then q+3+(if F=2 then i.toNat / 4 else i.toNat) else 0:Nat):Int),.int .i64 ((if i<0∨(x.len:Int)≤i then 1 else 0:Nat):Int)]):=fun hc=>Lib.hid (by rw [HV.out,hc]; simp)
  have fin:fs.contains x.fmt=true→((((x.fmt:Int) != F)=false)∨(((x.fmt:Int) != F)=true∧((x.fmt:Int) != 4)=false∧((F:Int) != 1)=false))→
   Calls Tryz.prog 186 #[.pointer (some ⟨p.g,0,none⟩),.int .u32 o,.int .i64 F,.int .i64 i] w (Told (h.placeV o i F fs) w):=by
   intro hc ht
   have HG:=good hc
   clear good bad HV hcc hc
   by_cases hneg:i<0
   ·have HP:=Lib.hid (show h.placeV o i F fs = .tuple #[.int .i64 0,.int .i64 1] by rw [HG.out,show (if i<0∨(x.len:Int)≤i then 1 else 0)=1 from if_pos (Or.inl hneg)]; simp)
    clear HG
    have hd:decide (i<0)=true:=by simpa using hneg
    rcases ht with ht | ⟨ht,ht2,ht3⟩
    all_goals
     go_enter Tryz.func186,Tryz.ntmps186
     go_wp2_with fail
     refine HI.out.mono ?_
     rintro e w1 ⟨rfl,rfl⟩
     go_wp2_with fail
     refine HH.out.mono ?_
     rintro e w1 ⟨rfl,hb1⟩
     go_wp2_with fail
     go_ret2
     exact⟨by rw [HP.out]; rfl,hb1⟩
   ·have hd:decide (i<0)=false:=by simpa using hneg
    by_cases hge:(x.len:Int)≤i
    ·have HP:=Lib.hid (show h.placeV o i F fs = .tuple #[.int .i64 0,.int .i64 1] by rw [HG.out,show (if i<0∨(x.len:Int)≤i then 1 else 0)=1 from if_pos (Or.inr hge)]; simp)
     clear HG
     have hd2:decide ((x.len:Int)≤i)=true:=by simpa using hge
     rcases ht with ht | ⟨ht,ht2,ht3⟩
     all_goals
      go_enter Tryz.func186,Tryz.ntmps186
      go_wp2_with fail
      refine HI.out.mono ?_
      rintro e w1 ⟨rfl,rfl⟩
      go_wp2_with fail
      refine HH.out.mono ?_
      rintro e w1 ⟨rfl,hb1⟩
      go_wp2_with fail
      refine (HL.out _ hb1).mono ?_
      rintro e w2 ⟨rfl,hb2⟩
      go_wp2_with fail
      go_ret2
      exact⟨by rw [HP.out]; rfl,below_top hb1 hb2⟩
    ·have hd2:decide ((x.len:Int)≤i)=false:=by simpa using hge
     obtain⟨k,rfl⟩:=Int.eq_ofNat_of_zero_le (by omega:0≤i)
     have HP:=Lib.hid (show h.placeV o k F fs = .tuple #[.int .i64 ((q+3+(if F=2 then k / 4 else k):Nat):Int),.int .i64 0] by rw [HG.out,show (if (k:Int)<0∨(x.len:Int)≤(k:Int) then 1 else 0)=0 from if_neg (by omega)]; simp)
     have hk:k<4294967296:=by omega
     clear HG
     by_cases h2:F=2
     ·have hp2:((F:Int) == 2)=true:=by simp; omega
      rw [if_pos h2] at HP
      clear h2
      rcases ht with ht | ⟨ht,ht2,ht3⟩
      all_goals
       go_enter Tryz.func186,Tryz.ntmps186
       go_wp2_with fail
       refine HI.out.mono ?_
       rintro e w1 ⟨rfl,rfl⟩
       go_wp2_with fail
       refine HH.out.mono ?_
       rintro e w1 ⟨rfl,hb1⟩
       go_wp2_with fail
       refine (HL.out _ hb1).mono ?_
       rintro e w2 ⟨rfl,hb2⟩
       go_wp2_with fail
       go_ret2
       exact⟨by rw [HP.out]; simp,below_top hb1 hb2⟩
     ·have hp2:((F:Int) == 2)=false:=by simp; omega
      rw [if_neg h2] at HP
      clear h2
      rcases ht with ht | ⟨ht,ht2,ht3⟩
      all_goals
       go_enter Tryz.func186,Tryz.ntmps186
       go_wp2_with fail
       refine HI.out.mono ?_
       rintro e w1 ⟨rfl,rfl⟩
       go_wp2_with fail
       refine HH.out.mono ?_
       rintro e w1 ⟨rfl,hb1⟩
       go_wp2_with fail
       refine (HL.out _ hb1).mono ?_
       rintro e w2 ⟨rfl,hb2⟩
       go_wp2_with fail
       go_ret2
       exact⟨by rw [HP.out]; simp,below_top hb1 hb2⟩
  rcases hcc with ⟨hc,he⟩ | ⟨hc,h1,h4,hF1⟩ | ⟨hc,h1,h4⟩ | ⟨hc,h1,h4,hF1⟩
  ·exact fin hc (.inl (by simp [he]))
  ·exact fin hc (.inr ⟨by simp; omega,by simp; omega,by simp; omega⟩)
  ·have HB:=bad _ ⟨hc,h1,h4⟩
   have ht:((x.fmt:Int) != F)=true:=by simp; omega
   have ht2:((x.fmt:Int) != 4)=true:=by simp; omega
   clear bad good fin HV hc h1 h4
   go_enter Tryz.func186,Tryz.ntmps186
   go_wp2_with fail
   refine HI.out.mono ?_
   rintro e w1 ⟨rfl,rfl⟩
   go_wp2_with fail
   refine HH.out.mono ?_
   rintro e w1 ⟨rfl,hb1⟩
   go_wp2_with fail
   go_ret2
   exact⟨by rw [HB.out]; rfl,hb1⟩
  ·have HB:=bad _ ⟨hc,h1,trivial⟩
   have ht:((x.fmt:Int) != F)=true:=by simp; omega
   have ht2:((x.fmt:Int) != 4)=false:=by simp; omega
   have ht3:((F:Int) != 1)=true:=by simp; omega
   clear bad good fin HV hc h1 h4 hF1
   go_enter Tryz.func186,Tryz.ntmps186
   go_wp2_with fail
   refine HI.out.mono ?_
   rintro e w1 ⟨rfl,rfl⟩
   go_wp2_with fail
   refine HH.out.mono ?_
   rintro e w1 ⟨rfl,hb1⟩
   go_wp2_with fail
   go_ret2
   exact⟨by rw [HB.out]; rfl,hb1⟩
end
end
section
open Go.RowKit
theorem look_at {h:HM} (hh:h.Heads) {o:Nat} {i:Int} {F:Nat} {fs:List Nat} (hF:(F=1∧fs=[1,4])∨(F=2∧fs=[2])∨(F=3∧fs=[3])) (he:h.lookE o i fs=0):
 ∃ k:Nat,i=k∧o / 2+3+(if F=2 then k / 4 else k)<h.words.length:=by
 obtain⟨hi,hc,h0,hlt⟩:=HM.look_ok he
 have hd:=(HM.isB_hd hh hi).1
 obtain⟨k,rfl⟩:=Int.eq_ofNat_of_zero_le h0
 refine⟨k,rfl,?_⟩
 unfold Hd.len at hlt
 rcases hF with ⟨rfl,rfl⟩ | ⟨rfl,rfl⟩ | ⟨rfl,rfl⟩
 ·rw [if_neg (fun e=>by rw [e] at hc; simp at hc)] at hlt
  rw [if_neg (by omega)]; omega
 ·rw [if_pos (by simpa using hc)] at hlt
  rw [if_pos rfl]; omega
 ·rw [if_neg (fun e=>by rw [e] at hc; simp at hc)] at hlt
  rw [if_neg (by omega)]; omega
theorem HM.placeV_no {h:HM} {o F:Nat} {i:Int} {fs:List Nat} (he:h.lookE o i fs≠0):h.placeV o i F fs = .tuple #[.int .i64 0,.int .i64 (h.lookE o i fs)]:=by
 unfold HM.placeV; rw [if_neg he]; rfl
theorem HM.placeV_at {h:HM} {o F k:Nat} {fs:List Nat} (he:h.lookE o k fs=0):h.placeV o k F fs = .tuple #[.int .i64 ((o / 2+3+(if F=2 then k / 4 else k):Nat):Int),.int .i64 0]:=by
 unfold HM.placeV; rw [if_pos he,he,Int.toNat_natCast]; rfl
def RDeeds (p:HP) (h':HM) (E:Nat) (w:World) (e:Ending) (w':World):Prop:=e = .returned (.int .i64 E)∧RAt w' p h'∧Step p p w w'
section
variable {w:World} {p:HP} {h:HM} (R:RAt w p h) (f:h.Fit) (hh:h.Heads) (o:Nat) (ho:o<4294967296) (i:Int) (hi63:i≤9223372036854775807)
include R f hh ho hi63
set_option maxRecDepth 100000 in
theorem rget_any:Calls Tryz.prog 156 #[ptr p.g,.int .u32 o,.int .i64 i] w (Told (.tuple #[.int .u32 (h.readN o i [1,4]:Nat),.int .i64 (h.lookE o i [1,4]:Nat)]) w):=by
 have HP:=Lib.hid (rplace_any R f o ho hh i 1 [1,4] (by decide) hi63)
 have hle:=h.lookE_lt o i [1,4]
 by_cases he:h.lookE o i [1,4]=0
 ·obtain⟨k,rfl,hk⟩:=look_at hh (F:=1) (fs:=[1,4]) (by decide) he
  rw [HM.placeV_at he] at HP
  simp only [Nat.reduceEqDiff,if_false] at HP hk
  have HN:=Lib.hid (show h.readN o k [1,4]=fw h o k by unfold HM.readN; rw [if_pos he]; rfl)
  have HC:=Lib.hid (show ∀ w',Below w.heap.size w w'→w'.cell? ⟨p.g,1,none⟩=some (.slice (some ⟨p.gw,0,none⟩) h.words.length p.cw)∧w'.cell? ⟨p.gw,o / 2+3+k,none⟩=some (.int .u32 (fw h o k:Nat)) from fun w' hb=>⟨(R.below hb).c1,(R.below hb).word hk⟩)
  have hmx:=f.room
  have hmx2:=f.hi
  rw [HN.out,he]
  clear he hle HN R f hh
  generalize fw h o k=v at *
  generalize o / 2+3+k=q at *
  generalize h.words.length=len at *
  unfold ptr at HP ⊢
  go_enter Tryz.func156,Tryz.ntmps156
  go_wp2_with fail
  refine HP.out.mono ?_
  rintro e w1 ⟨rfl,hb⟩
  obtain⟨c1,cv⟩:=HC.out _ hb
  go_wp2_with fail
  go_ret2
  exact⟨rfl,hb⟩
 ·have hne:((h.lookE o i [1,4]:Int) != 0)=true:=by simp; omega
  rw [HM.placeV_no he] at HP
  have HN:=Lib.hid (show h.readN o i [1,4]=0 by unfold HM.readN; rw [if_neg he])
  rw [HN.out]
  generalize h.lookE o i [1,4]=E at *
  clear he HN
  unfold ptr at HP ⊢
  go_enter Tryz.func156,Tryz.ntmps156
  go_wp2_with fail
  refine HP.out.mono ?_
  rintro e w1 ⟨rfl,hb⟩
  go_wp2_with fail
  go_ret2
  exact⟨rfl,hb⟩
end
end
section
open Go.RowKit
section
variable {w:World} {p:HP} {h:HM} (R:RAt w p h) (f:h.Fit) (hh:h.Heads) (o:Nat) (ho:o<4294967296) (i:Int) (hi63:i≤9223372036854775807)
include R f hh ho hi63
set_option maxRecDepth 100000 in
theorem rput_any (v:Nat) (hv:v<4294967296):Calls Tryz.prog 124 #[ptr p.g,.int .u32 o,.int .i64 i,.int .u32 v] w (RDeeds p (h.putH o i v) (h.putE o i v) w):=by
 have HP:=Lib.hid (rplace_any R f o ho hh i 1 [1,4] (by decide) hi63)
 have HVC:=Lib.hid (fun w' (hb:Below w.heap.size w w')=>rvalb_any (R.below hb) f v hv)
 have HR:=Lib.hid (fun w' (hb:Below w.heap.size w w')=>R.below hb)
 have hle:=h.lookE_lt o i [1,4]
 by_cases he:h.lookE o i [1,4]=0
 ·obtain⟨k,rfl,hk⟩:=look_at hh (F:=1) (fs:=[1,4]) (by decide) he
  rw [HM.placeV_at he] at HP
  simp only [Nat.reduceEqDiff,if_false] at HP hk
  have hE:h.putE o k v=if h.valB v then 0 else 3:=by unfold HM.putE; rw [if_pos he]
  have hmx:=f.room
  have hmx2:=f.hi
  unfold ptr at HP HVC ⊢
  cases hval:h.valB v
  ·have HF:=Lib.hid (show h.putE o k v=3∧h.putH o k v=h by rw [hval] at hE; unfold HM.putH; rw [hE]; exact⟨rfl,rfl⟩)
   rw [hval] at HVC
   clear he hle hE hval hh R f
   generalize o / 2+3+k=q at *
   go_enter Tryz.func124,Tryz.ntmps124
   go_wp2_with fail
   refine HP.out.mono ?_
   rintro e w1 ⟨rfl,hb⟩
   go_wp2_with fail
   refine (HVC.out _ hb).mono ?_
   rintro e w2 ⟨rfl,rfl⟩
   go_wp2_with fail
   go_ret
   exact⟨by rw [HF.out.1]; rfl,by rw [HF.out.2]; exact HR.out _ hb,.of_below hb⟩
  ·have HF:=Lib.hid (show h.putE o k v=0∧h.putH o k v=h.setF o k v by rw [hval] at hE; unfold HM.putH; rw [hE]; exact⟨rfl,rfl⟩)
   rw [hval] at HVC
   have HC:=Lib.hid (show ∀ w',Below w.heap.size w w'→w'.cell? ⟨p.g,1,none⟩=some (.slice (some ⟨p.gw,0,none⟩) h.words.length p.cw)∧w'.cell? ⟨p.gw,o / 2+3+k,none⟩=some (.int .u32 (fw h o k:Nat))∧w'.frozen? ⟨p.gw,o / 2+3+k,none⟩=false from fun w' hb=>⟨(R.below hb).c1,(R.below hb).word hk,(R.below hb).2.1.frozen _⟩)
   have HS:=Lib.hid (show ∀ w',Below w.heap.size w w'→RAt (w'.setCell ⟨p.gw,o / 2+3+k,none⟩ (.int .u32 v)) p (h.setF o k v) from fun w' hb=>(R.below hb).setWord _ _)
   rw [← HF.out.2] at HS
   clear he hle hE hval hh R f
   generalize fw h o k=v0 at *
   generalize o / 2+3+k=q at *
   generalize h.words.length=len at *
   go_enter Tryz.func124,Tryz.ntmps124
   go_wp2_with fail
   refine HP.out.mono ?_
   rintro e w1 ⟨rfl,hb⟩
   go_wp2_with fail
   refine (HVC.out _ hb).mono ?_
   rintro e w2 ⟨rfl,rfl⟩
   obtain⟨c1,cv,cf⟩:=HC.out _ hb
   go_wp2_with fail
   go_ret
   exact⟨by rw [HF.out.1]; rfl,HS.out _ hb,(Step.of_below hb).setCell (.inl (.inr (.inl rfl))) _⟩
 ·have hne:((h.lookE o i [1,4]:Int) != 0)=true:=by simp; omega
  have HF:=Lib.hid (show h.putE o i v=h.lookE o i [1,4]∧h.putH o i v=h by unfold HM.putH HM.putE; rw [if_neg he,if_neg he]; exact⟨rfl,rfl⟩)
  rw [HM.placeV_no he] at HP
  generalize h.lookE o i [1,4]=E at *
  clear he
  unfold ptr at HP ⊢
  go_enter Tryz.func124,Tryz.ntmps124
  go_wp2_with fail
  refine HP.out.mono ?_
  rintro e w1 ⟨rfl,hb⟩
  go_wp2_with fail
  go_ret
  exact⟨by rw [HF.out.1]; rfl,by rw [HF.out.2]; exact HR.out _ hb,.of_below hb⟩
end
section
variable {w:World} {p:HP} {h:HM} (R:RAt w p h) (f:h.Fit)
include R f
theorem rsetRoot_any (i:Int) (v:Nat) (hv:v<4294967296):Calls Tryz.prog 79 #[ptr p.g,.int .i64 i,.int .u32 v] w (RDeeds p (h.setRootH i v) (h.setRootE i v) w):=by
 have HK:=Lib.hid (rvalb_any R f v hv)
 have HR:=Lib.hid R
 unfold ptr at HK ⊢
 by_cases hn:i<0
 ·have hok:rootOk i=false:=by unfold rootOk; simp; omega
  have HF:=Lib.hid (show h.setRootE i v=1∧h.setRootH i v=h by unfold HM.setRootH HM.setRootE; rw [hok]; exact⟨rfl,rfl⟩)
  clear hok
  go_enter Tryz.func79,Tryz.ntmps79
  go_wp2_with fail
  go_ret
  exact⟨by rw [HF.out.1]; rfl,by rw [HF.out.2]; exact HR.out,Step.refl _ _⟩
 by_cases hg:64≤i
 ·have hok:rootOk i=false:=by unfold rootOk; simp; omega
  have HF:=Lib.hid (show h.setRootE i v=1∧h.setRootH i v=h by unfold HM.setRootH HM.setRootE; rw [hok]; exact⟨rfl,rfl⟩)
  clear hok
  go_enter Tryz.func79,Tryz.ntmps79
  go_wp2_with fail
  go_ret
  exact⟨by rw [HF.out.1]; rfl,by rw [HF.out.2]; exact HR.out,Step.refl _ _⟩
 obtain⟨k,rfl⟩:=Int.eq_ofNat_of_zero_le (by omega:0≤i)
 have hok:rootOk k=true:=by unfold rootOk; simp; omega
 cases hval:h.valB v
 ·have HF:=Lib.hid (show h.setRootE k v=3∧h.setRootH k v=h by unfold HM.setRootH HM.setRootE; rw [hok,hval]; exact⟨rfl,rfl⟩)
  rw [hval] at HK
  clear hok hval
  go_enter Tryz.func79,Tryz.ntmps79
  go_wp2_with fail
  refine HK.out.mono ?_
  rintro e w1 ⟨rfl,rfl⟩
  go_wp2_with fail
  go_ret
  exact⟨by rw [HF.out.1]; rfl,by rw [HF.out.2]; exact HR.out,Step.refl _ _⟩
 ·have HF:=Lib.hid (show h.setRootE k v=0∧h.setRootH k v={ h with roots:=h.roots.set k v } by unfold HM.setRootH HM.setRootE; rw [hok,hval]; exact⟨rfl,rfl⟩)
  have hk64:k<64:=by omega
  have hrl:=f.roots
  have c2:=R.c2
  have cv:=R.root (i:=k) (by omega)
  have cf:=R.2.2.2.frozen k
  have HS:=Lib.hid (R.setRoot k v)
  rw [← HF.out.2] at HS
  rw [hval] at HK
  rw [hrl] at c2
  clear hok hval R f hrl
  generalize h.roots.getD k 0=v0 at *
  go_enter Tryz.func79,Tryz.ntmps79
  go_wp2_with fail
  refine HK.out.mono ?_
  rintro e w1 ⟨rfl,rfl⟩
  go_wp2_with fail
  go_ret
  exact⟨by rw [HF.out.1]; rfl,HS.out,(Step.refl _ _).setCell (.inl (.inr (.inr (.inr rfl)))) _⟩
end
end
section
open Go.RowKit
section
variable {w w1:World} {p:HP} {h:HM}
theorem RAt.grewWords (H:RAt w p h) {g1 c1:Nat} {ys:List Nat} (hr:Row w1 g1 32 c1 (u32s (h.words++ys))) (hg:w.grownBy w1 (some p.gw)) (hat:g1=p.gw∨w.heap.size≤g1):
 RAt (w1.setCell ⟨p.g,1,none⟩ (.slice (some ⟨g1,0,none⟩) (h.words++ys).length c1)) { p with gw:=g1,cw:=c1 } { h with words:=h.words++ys }∧
 Step p { p with gw:=g1,cw:=c1 } w (w1.setCell ⟨p.g,1,none⟩ (.slice (some ⟨g1,0,none⟩) (h.words++ys).length c1)):=by
 obtain⟨hb,hw,hs,hrt⟩:=H
 have n1:p.g≠p.gw:=fun e=>Row.ne_blk hw hb (by decide) e.symm
 have n2:p.gs≠p.gw:=hs.ne_ hw (by decide)
 have n3:p.gr≠p.gw:=hrt.ne_ hw (by decide)
 have hb1:=hb.same (hg.block p.g hb.lt (by simpa using n1))
 have hs1:=hs.same (hg.block p.gs hs.lt (by simpa using n2))
 have hr1:=hrt.same (hg.block p.gr hrt.lt (by simpa using n3))
 refine⟨⟨hb1.set_ 1 _,hr.far (fun e=>Row.ne_blk hr hb1 (by decide) e) _,hs1.far (fun e=>Row.ne_blk hs1 hb1 (by decide) e) _,hr1.far (fun e=>Row.ne_blk hr1 hb1 (by decide) e) _⟩,?_⟩
 have s1:Step p { p with gw:=g1,cw:=c1 } w w1:=⟨hg.os,hg.tape,hg.output,hg.size,fun k hk hn=>hg.block k hk (by
  intro e; injection e with e; exact hn (.inr (.inl e))),rfl,by
  rintro k (hk | hk | hk | hk)
  ·exact .inl (.inl hk)
  ·rcases hat with e | e
   ·exact .inl (.inr (.inl (hk.trans e)))
   ·exact .inr (hk ▸ e)
  ·exact .inl (.inr (.inr (.inl hk)))
  ·exact .inl (.inr (.inr (.inr hk)))⟩
 exact s1.setCell (.inl (.inl rfl)) _
theorem RAt.grewBegins (H:RAt w p h) {g1 c1:Nat} {ys:List Bool} (hr:Row w1 g1 5 c1 (begins (h.starts++ys))) (hg:w.grownBy w1 (some p.gs)) (hat:g1=p.gs∨w.heap.size≤g1):
 RAt (w1.setCell ⟨p.g,4,none⟩ (.slice (some ⟨g1,0,none⟩) (h.starts++ys).length c1)) { p with gs:=g1,cs:=c1 } { h with starts:=h.starts++ys }∧
 Step p { p with gs:=g1,cs:=c1 } w (w1.setCell ⟨p.g,4,none⟩ (.slice (some ⟨g1,0,none⟩) (h.starts++ys).length c1)):=by
 obtain⟨hb,hw,hs,hrt⟩:=H
 have n1:p.g≠p.gs:=fun e=>Row.ne_blk hs hb (by decide) e.symm
 have n2:p.gw≠p.gs:=hw.ne_ hs (by decide)
 have n3:p.gr≠p.gs:=hrt.ne_ hs (by decide)
 have hb1:=hb.same (hg.block p.g hb.lt (by simpa using n1))
 have hw1:=hw.same (hg.block p.gw hw.lt (by simpa using n2))
 have hr1:=hrt.same (hg.block p.gr hrt.lt (by simpa using n3))
 refine⟨⟨hb1.set_ 4 _,hw1.far (fun e=>Row.ne_blk hw1 hb1 (by decide) e) _,hr.far (fun e=>Row.ne_blk hr hb1 (by decide) e) _,hr1.far (fun e=>Row.ne_blk hr1 hb1 (by decide) e) _⟩,?_⟩
 have s1:Step p { p with gs:=g1,cs:=c1 } w w1:=⟨hg.os,hg.tape,hg.output,hg.size,fun k hk hn=>hg.block k hk (by
  intro e; injection e with e; exact hn (.inr (.inr (.inl e)))),rfl,by
  rintro k (hk | hk | hk | hk)
  ·exact .inl (.inl hk)
  ·exact .inl (.inr (.inl hk))
  ·rcases hat with e | e
   ·exact .inl (.inr (.inr (.inl (hk.trans e))))
   ·exact .inr (hk ▸ e)
  ·exact .inl (.inr (.inr (.inr hk)))⟩
 exact s1.setCell (.inl (.inl rfl)) _
end
def RMade (p:HP) (h':HM) (v:Value) (w:World) (e:Ending) (w':World):Prop:=∃ p',e = .returned v∧RAt w' p' h'∧Step p p' w w'
theorem wpList_append_zeros {P:Program} {w:World} {ops:Array Oper} {rest:List Oper} {o:Oper} {a:Act} {Q:Exit→Act→World→Prop} (hgd:o.guard=none) (s x:Operand) (t tn:TypeId)
 (ho:o.op = .call { callee:=.builtin .append,args:=#[s,x],argTypes:=#[t,tn] })
 {g c:Nat} {e:TypeId} {xs:List Value} (hr:Row w g e c xs) (i:TypeInfo) (z:Value) (bytes:Nat)
 (ht:P.underlying t=some (.slice e)) (htn:P.underlying tn=some (.int .i64)) (hi:P.info? e=some i) (hz:i.zero=some z) (hsize:i.size=1) (hby:i.bytes=bytes)
 (hz1:z.cells=#[z]) (hone:z.oneCell'=true) (n k:Nat) (hn:xs.length=n) (hk:0<k) (h63:n+k≤maxLen) (hbytes:(n+k)*bytes≤140737488355328)
 (hs:a.eval s = .slice (some ⟨g,0,none⟩) n c) (hx:a.eval x = .int .i64 k)
 (h:∀ g' c' w',Row w' g' e c' (xs++List.replicate k z)→w.grownBy w' (some g)→(g'=g∨g'=w.heap.size)→wpList P ops Q rest (a.put o.dst (.slice (some ⟨g',0,none⟩) (n+k) c')) w'):wpList P ops Q (o :: rest) a w:=by
 refine wpList_plain hgd fun K hK=>?_
 subst hn
 obtain⟨g',c',w',hrun,h1,h2,h3⟩:=run_append_zeros hr t tn o.type i z bytes ht htn hi hz hsize hby hz1 hone k hk h63 hbytes
 exact Lib.wp_append_run w s x t tn ho _ _ hs hx _ w' hrun (hK _ _ (h g' c' w' h1 h2 h3))
def RMid (p p':HP) (h':HM) (w:World) (gf n:Nat) (ys:List Nat) (wr:World):Prop:=
 RAt wr p' h'∧Step p p' w wr∧Row wr gf 32 n (u32s ys)∧¬ p'.has gf
theorem RMid.next {p p' p'':HP} {h' h'':HM} {w wr wx:World} {gf n:Nat} {ys:List Nat} (m:RMid p p' h' w gf n ys wr) (R:RAt wx p'' h'') (s:Step p' p'' wr wx):RMid p p'' h'' w gf n ys wx:=
 ⟨R,m.2.1.trans s,s.row m.2.2.1 m.2.2.2⟩
theorem RMid.below {p p':HP} {h':HM} {w wr wx:World} {gf n:Nat} {ys:List Nat} (m:RMid p p' h' w gf n ys wr) (hb:Below wr.heap.size wr wx):RMid p p' h' w gf n ys wx:=
 m.next (m.1.below hb) (.of_below hb)
set_option maxRecDepth 100000 in
set_option maxHeartbeats 4000000 in
theorem rlay_any {w:World} {p:HP} {h:HM} (R:RAt w p h) (f:h.Fit) (c F s gf n:Nat) (ys:List Nat) (hc:c<4294967296) (hF:F<8) (hs:s<4) (hn:n≤65535) (hyl:ys.length=n) (hr:Row w gf 32 n (u32s ys)) (hg:¬ p.has gf):
 Calls Tryz.prog 160 #[ptr p.g,.int .u32 c,.int .i64 F,.int .i64 s,.slice (some ⟨gf,0,none⟩) n n] w
  (RMade p (if h.size<h.words.length+3+n∨h.last=4294967295 then h else h.pushH ⟨n,F,s,c,0⟩ ys)
    (if h.size<h.words.length+3+n∨h.last=4294967295 then .tuple #[.int .u32 0,.int .i64 4] else .tuple #[.int .u32 (2*h.words.length:Nat),.int .i64 0]) w):=by
 have hroom:=f.room
 have hhi:=f.hi
 have hone:=f.one
 have hl32:=f.l32
 have hmarks:=f.marks
 have c0:=R.c0
 have c1:=R.c1
 have c3:=R.c3
 have f3:=R.1.frozen 3
 unfold ptr
 by_cases hfull:h.size<h.words.length+3+n
 ·have HF:=Lib.hid (show (h.size<h.words.length+3+n∨h.last=4294967295) from .inl hfull)
  rw [if_pos HF.out,if_pos HF.out]
  have HR:=Lib.hid R
  have hgt:decide ((h.size:Int)<(h.words.length:Int)+3+(n:Int))=true:=by simp; omega
  clear hfull R f hr
  go_enter Tryz.func160,Tryz.ntmps160
  go_wp2_with fail
  go_quiet (fail)
  go_wp2_with fail
  go_ret2
  exact⟨p,rfl,HR.out.drewN _,(Step.refl _ _).drewN _⟩
 have hgt:decide ((h.size:Int)<(h.words.length:Int)+3+(n:Int))=false:=by simp; omega
 by_cases hlast:h.last=4294967295
 ·have HF:=Lib.hid (show (h.size<h.words.length+3+n∨h.last=4294967295) from .inr hlast)
  rw [if_pos HF.out,if_pos HF.out]
  have HR:=Lib.hid R
  have hq:((h.last:Int) == 4294967295)=true:=by simp; omega
  clear hfull hlast R f hr
  go_enter Tryz.func160,Tryz.ntmps160
  go_wp2_with fail
  go_quiet (fail)
  go_wp2_with fail
  go_ret2
  exact⟨p,rfl,HR.out.drewN _,(Step.refl _ _).drewN _⟩
 have HF:=Lib.hid (show ¬ (h.size<h.words.length+3+n∨h.last=4294967295) by omega)
 rw [if_neg HF.out,if_neg HF.out]
 have hq:((h.last:Int) == 4294967295)=false:=by simp; omega
 have HM0:=Lib.hid (show RMid p p h w gf n ys w from⟨R,Step.refl _ _,hr,hg⟩)
 obtain⟨l1,hl1⟩ :∃ l1,h.last+1=l1:=⟨_,rfl⟩
 have hcast:(h.last:Int)+1=(l1:Int):=by omega
 have hl1b:l1<4294967296:=by omega
 have HL1:=Lib.hid hl1
 have HFT:=Lib.hid f
 clear hlast R hr HF hl1 f
 go_enter Tryz.func160,Tryz.ntmps160
 go_wp2_with fail
 go_quiet (fail)
 go_wp2_with fail
 have HM2:=Lib.hid (show RMid p p { h with last:=l1 } w gf n ys ((w.drewN nq).setCell ⟨p.g,3,none⟩ (.int .u32 (l1:Nat))) from
  (show RMid p p h w gf n ys (w.drewN nq) from HM0.out.below (below_drewN (Below.refl _ _) _)).next ((HM0.out.1.drewN nq).setLast l1) ((Step.refl _ _).setCell (.inl (.inl rfl)) _))
 clear HM0 c0 c1 c3 f3
 generalize (w.drewN nq).setCell _ _=W2 at *
 have HPK:=Lib.hid (fun w=>rpack_any ⟨n,F,s,c,l1⟩ ⟨by show n<16777216; omega,hF,hs,hc,hl1b⟩ w)
 unfold Hd.val Hd.packed at HPK
 generalize hw0:Hd.w0 ⟨n,F,s,c,l1⟩=w0 at *
 have HW0:=Lib.hid hw0
 clear hw0
 refine (HPK.out _).mono ?_
 rintro e w3 ⟨rfl,hb3⟩
 clear HPK
 go_upto_region 5 with fail
 have HM4:=Lib.hid ((HM2.out.below hb3).below (below_alloc1 (o:=.cells #[.int .u32 w0,.int .u32 c,.int .u32 l1] 248) (Below.refl _ w3)))
 have HT4:=Lib.hid (Blk.new w3 248 #[.int .u32 w0,.int .u32 c,.int .u32 l1])
 clear HM2 hb3
 generalize w3.alloc (.cells #[.int .u32 w0,.int .u32 c,.int .u32 l1] 248)=W4 at *
 generalize w3.heap.size=gT at *
 have k1:=HM4.out.1.c1
 have k4:=HM4.out.1.c4
 simp only [hmarks] at k4
 have hown:=HM4.out.1.2.2.1.owns
 rw [begins_len] at hown
 simp only [hmarks] at hown
 have HO:=Lib.hid hown
 have z4:=HM4.out.1.1.frozen 4
 have n1:p.g≠p.gs:=fun e=>Row.ne_blk HM4.out.1.2.2.1 HM4.out.1.1 (by decide) e.symm
 have hgg:p.g<W4.heap.size:=HM4.out.1.lt (.inl rfl)
 clear hown
 obtain⟨i0,hi0,hz0,hz1,hz2⟩:=info_parts info_u8
 go_upto_region 7 with (at_builtin; refine wpList_append_any _ rfl (.tmp 62) (.tmp 63) _ rfl 0 5 i0 _ 1 1 Tryz.underlying22 hi0 hz0 hz1 hz2 rfl (by omega) (.slice (some ⟨p.gs,0,none⟩) h.words.length p.cs) h.words.length _ rfl (HO.out.alloc _) (W4.heap.size+1) (some ⟨W4.heap.size,0,none⟩) 1 1 (u8c [1]) rfl ⟨rfl,fun _=>⟨_,rfl,by simp,cell_one_new _ _ _⟩⟩ (one_u8c _) (by simp only [maxLen]; omega) (by omega) (by omega) ?_; intro v5 w5 hown5 hg5 hat5; obtain⟨g5,c5,rfl,hrow5,hlen5,_⟩:=Row.of_any hown5 (by omega); have k5:=(hg5.cell_far ⟨p.g,4,none⟩ (by simp; omega) (by simp [Value.ownBlock]; exact n1)).trans ((World.cell?_alloc_lt _ _ _ hgg).trans k4); have z5:=(hg5.frozen_far ⟨p.g,4,none⟩ (by simp; omega) (by simp [Value.ownBlock]; exact n1)).trans (((below_alloc1 (Below.refl _ W4)).frozen (p:=⟨p.g,4,none⟩) hgg).trans z4); clear hown5)
 have hu5:begins h.starts++u8c [1]=begins (h.starts++[true]):=by simp [begins,u8c]
 have hl5:(h.starts++[true]).length=h.words.length+1:=by simp [hmarks]
 rw [hu5] at hrow5
 have HM4':=HM4.out.below (below_alloc1 (o:=.cells #[.int .u8 1] 5) (Below.refl _ W4))
 obtain⟨H6,s6⟩:=RAt.grewBegins (ys:=[true]) HM4'.1 hrow5 hg5 (by
  rcases hat5 with e | e
  ·left; simpa [Value.ownBlock] using e
  ·right; simp only [Value.ownBlock,Option.some.injEq] at e; omega)
 simp only [hl5] at H6 s6
 have HM6:=Lib.hid (HM4'.next H6 s6)
 have BT6:=Lib.hid (show Blk (w5.setCell ⟨p.g,4,none⟩ (.slice (some ⟨g5,0,none⟩) (h.words.length+1) c5)) gT 248 #[.int .u32 w0,.int .u32 c,.int .u32 l1] from
  ((HT4.out.alloc _).same (hg5.block gT (HT4.out.alloc _).lt (by simp only [Value.ownBlock]; intro e; injection e with e; exact Row.ne_blk HM4.out.1.2.2.1 HT4.out (by decide) e.symm))).far (p:=⟨p.g,4,none⟩) (fun e=>Blk.ne_ HT4.out HM4.out.1.1 (by decide) e) _)
 clear HM4' hu5 hl5 hrow5 hg5 hat5 hlen5 k5 z5 HM4 HT4 k1 k4 HO z4 n1 hgg H6 s6
 generalize w5.setCell _ _=W6 at *
 generalize hp6:({ p with gs:=g5,cs:=c5 }:HP)=p6 at *
 have HG6:=Lib.hid (show p6.g=p.g by rw [← hp6])
 clear hp6
 have q1:=HM6.out.1.c1
 have q4:=HM6.out.1.c4
 have zz4:=HM6.out.1.1.frozen 4
 have hsl:(h.starts++[true]).length=h.words.length+1:=by simp [hmarks]
 simp only [hsl] at q4
 rw [HG6.out] at q1 q4 zz4
 have n1:p.g≠p6.gs:=fun e=>Row.ne_blk HM6.out.1.2.2.1 HM6.out.1.1 (by decide) (by rw [HG6.out]; exact e.symm)
 have hgg:p.g<W6.heap.size:=by have:=HM6.out.1.lt (.inl rfl); rw [HG6.out] at this; exact this
 have HSL:=Lib.hid (show (begins (h.starts++[true])).length=h.words.length+1 by rw [begins_len]; exact hsl)
 have a1:IntKind.i64.wrap (2+(n:Int))=2+(n:Int):=IntWalk.i64_in _ (by omega)
 clear hsl
 go_upto_region 8 with (at_builtin; refine wpList_append_zeros rfl (.tmp 71) (.tmp 74) _ _ rfl (show Row W6 p6.gs 5 p6.cs (begins (h.starts++[true])) from HM6.out.1.2.2.1) i0 _ 1 Tryz.underlying22 Tryz.underlying3 hi0 hz0 hz1 hz2 rfl rfl (h.words.length+1) (2+n) HSL.out (by omega) (by simp only [maxLen]; omega) (by omega) rfl (by first | rfl | (simp; omega)) ?_; intro g7 c7 w7 hrow7 hg7 hat7; have k7:=(hg7.cell_far ⟨p.g,4,none⟩ hgg (by simpa using n1)).trans q4; have z7:=(hg7.frozen_far ⟨p.g,4,none⟩ hgg (by simpa using n1)).trans zz4)
 have hu7:begins (h.starts++[true])++List.replicate (2+n) (.int .u8 0)=begins (h.starts++[true]++List.replicate (2+n) false):=by simp [begins]
 have hl7:(h.starts++[true]++List.replicate (2+n) false).length=h.words.length+1+(2+n):=by simp [hmarks]; omega
 rw [hu7] at hrow7
 obtain⟨H8,s8⟩:=RAt.grewBegins (ys:=List.replicate (2+n) false) HM6.out.1 hrow7 hg7 (by
  rcases hat7 with e | e
  ·exact .inl e
  ·right; rw [e]; exact Nat.le_refl _)
 simp only [hl7] at H8 s8
 rw [HG6.out] at H8 s8
 have HM8:=Lib.hid (HM6.out.next H8 s8)
 have BT8:=Lib.hid (show Blk (w7.setCell ⟨p.g,4,none⟩ (.slice (some ⟨g7,0,none⟩) (h.words.length+1+(2+n)) c7)) gT 248 #[.int .u32 w0,.int .u32 c,.int .u32 l1] from
  (BT6.out.same (hg7.block gT BT6.out.lt (by intro e; injection e with e; exact Row.ne_blk HM6.out.1.2.2.1 BT6.out (by decide) e.symm))).far (p:=⟨p.g,4,none⟩) (fun e=>Blk.ne_ BT6.out HM6.out.1.1 (by decide) (by rw [HG6.out]; exact e)) _)
 clear hu7 hl7 hrow7 hg7 hat7 k7 z7 HM6 BT6 q1 q4 zz4 n1 hgg H8 s8 HSL a1 hi0 hz0 hz1 hz2
 generalize w7.setCell _ _=W8 at *
 generalize hp8:(⟨p.g,p6.gw,p6.cw,g7,c7,p6.gr,p6.cr⟩ :HP)=p8 at *
 have HG8:=Lib.hid (show p8.g=p.g by rw [← hp8])
 clear hp8
 have q1:=HM8.out.1.c1
 have zz1:=HM8.out.1.1.frozen 1
 rw [HG8.out] at q1 zz1
 simp only at q1
 have hown:=HM8.out.1.2.1.owns
 rw [u32s_len] at hown
 simp only at hown
 have HO:=Lib.hid hown
 have HN:=Lib.hid (show Reads (W8.alloc (.cells #[.int .u32 w0,.int .u32 c,.int .u32 l1] 32)) (W8.heap.size+1) 1 (some ⟨W8.heap.size,0,none⟩) 3 (u32s [w0,c,l1]) from⟨rfl,fun _=>⟨_,rfl,by simp,fun j u hj=>by
  rw [WideShapes.add_plain,Nat.zero_add,(Blk.new W8 _ _).cell]
  simpa [u32s] using hj⟩⟩)
 have n1:p.g≠p8.gw:=fun e=>Row.ne_blk HM8.out.1.2.1 HM8.out.1.1 (by decide) (by rw [HG8.out]; exact e.symm)
 have hgg:p.g<W8.heap.size:=by have:=HM8.out.1.lt (.inl rfl); rw [HG8.out] at this; exact this
 have hnb:W8.heap.size≠p.g:=by omega
 obtain⟨t0,t1,t2⟩:=BT8.out.cells3
 have htl:=BT8.out.lt
 obtain⟨i1,hi0,hz0,hz1,hz2⟩:=info_parts info_u32
 clear hown
 go_cut [78] (fun v wx=>∃ p9,RMid p p9 { h with words:=h.words++[w0,c,l1],starts:=h.starts++[true]++List.replicate (2+n) false,last:=l1 } w gf n ys wx)
 case first=>
  go_region_law
   ((refine step_append_any _ (by rfl) _ _ _ (by rfl) 0 32 i1 _ 1 4 Tryz.underlying84 hi0 hz0 hz1 hz2 rfl (by omega) (.slice (some ⟨p8.gw,0,none⟩) h.words.length p8.cw) h.words.length (u32s h.words) (by rfl) (HO.out.alloc _).drew (W8.heap.size+1) (some ⟨W8.heap.size,0,none⟩) 3 3 (u32s [w0,c,l1]) (by rfl) HN.out.drew (one_u32s _) (by simp only [maxLen]; omega) (by omega) (by omega) ?_; intro v9 w9 hown9 hg9 hat9; obtain⟨g9,c9,rfl,hrow9,hlen9,_⟩:=Row.of_any hown9 (by omega); have k9:=(hg9.cell_far ⟨p.g,1,none⟩ (by simp [World.drew]; omega) (by simp [Value.ownBlock]; exact n1)).trans ((World.cell?_alloc_lt _ _ _ hgg).trans q1); have z9:=(hg9.frozen_far ⟨p.g,1,none⟩ (by simp [World.drew]; omega) (by simp [Value.ownBlock]; exact n1)).trans (((below_alloc1 (Below.refl _ W8)).frozen (p:=⟨p.g,1,none⟩) hgg).trans zz1); clear hown9))
  all_goals
   have hu9:u32s h.words++u32s [w0,c,l1]=u32s (h.words++[w0,c,l1]):=by simp [u32s]
   have hl9:(h.words++[w0,c,l1]).length=h.words.length+3:=by simp
   rw [hu9] at hrow9
   have HM8':=HM8.out.below (below_drew (below_alloc1 (o:=.cells #[.int .u32 w0,.int .u32 c,.int .u32 l1] 32) (Below.refl _ W8)))
   obtain⟨H10,s10⟩:=RAt.grewWords (ys:=[w0,c,l1]) HM8'.1 hrow9 hg9 (by
    rcases hat9 with e | e
    ·left; simpa [Value.ownBlock] using e
    ·right; simp only [Value.ownBlock,Option.some.injEq] at e; omega)
   simp only [hl9] at H10 s10
   rw [HG8.out] at H10 s10
   go_wp2_with fail
   go_meet
   exact⟨_,HM8'.next H10 s10⟩
 case rest=>
  obtain⟨p9,HM9⟩:=hcut
  clear HM8 HN HO BT8 t0 t1 t2 htl q1 zz1 n1 hgg hnb
  have HG9:=Lib.hid (show p9.g=p.g from HM9.2.1.g)
  have hl9:(h.words++[w0,c,l1]).length=h.words.length+3:=by simp
  have q1:=HM9.1.c1
  have zz1:=HM9.1.1.frozen 1
  rw [HG9.out] at q1 zz1
  simp only [hl9] at q1
  have hown:=HM9.1.2.1.owns
  rw [u32s_len] at hown
  simp only [hl9] at hown
  have HO:=Lib.hid hown
  have HN:=Lib.hid (show Reads wc wc.heap.size 1 (some ⟨gf,0,none⟩) n (u32s ys) by have:=HM9.2.2.1.reads HM9.2.2.1.lt; rw [u32s_len,hyl] at this; exact this)
  have n1:p.g≠p9.gw:=fun e=>Row.ne_blk HM9.1.2.1 HM9.1.1 (by decide) (by rw [HG9.out]; exact e.symm)
  have hgg:p.g<wc.heap.size:=by have:=HM9.1.lt (.inl rfl); rw [HG9.out] at this; exact this
  have HMZ:=Lib.hid HM9
  clear hown hl9 HM9
  obtain⟨i2,hj0,hj1,hj2,hj3⟩:=info_parts info_u32
  go_wp2_with (at_builtin; refine wpList_append_any _ rfl (.tmp 97) (.tmp 98) _ rfl 0 32 i2 _ 1 4 Tryz.underlying84 hj0 hj1 hj2 hj3 rfl (by omega) (.slice (some ⟨p9.gw,0,none⟩) (h.words.length+3) p9.cw) (h.words.length+3) _ rfl HO.out wc.heap.size (some ⟨gf,0,none⟩) n n (u32s ys) rfl HN.out (one_u32s _) (by simp only [maxLen]; omega) (by omega) (by omega) ?_; intro v11 w11 hown11 hg11 hat11; obtain⟨g11,c11,rfl,hrow11,hlen11,_⟩:=Row.of_any hown11 (by omega); have k11:=(hg11.cell_far ⟨p.g,1,none⟩ hgg (by simp [Value.ownBlock]; exact n1)).trans q1; have z11:=(hg11.frozen_far ⟨p.g,1,none⟩ hgg (by simp [Value.ownBlock]; exact n1)).trans zz1; clear hown11)
  have hu:u32s (h.words++[w0,c,l1])++u32s ys=u32s (h.words++[w0,c,l1]++ys):=by simp [u32s]
  have hl:(h.words++[w0,c,l1]++ys).length=h.words.length+3+n:=by simp [hyl]; omega
  rw [hu] at hrow11
  obtain⟨H12,s12⟩:=RAt.grewWords (ys:=ys) HMZ.out.1 hrow11 hg11 (by
   rcases hat11 with e | e
   ·left; simpa [Value.ownBlock] using e
   ·right; simp only [Value.ownBlock,Option.some.injEq] at e; omega)
  simp only [hl] at H12 s12
  rw [HG9.out] at H12 s12
  have HE:=Lib.hid (show h.pushH ⟨n,F,s,c,0⟩ ys={ h with words:=h.words++[w0,c,l1]++ys,starts:=h.starts++[true]++List.replicate (2+n) false,last:=l1 } by
   unfold HM.pushH
   rw [show Hd.w0 ⟨n,F,s,c,0⟩=w0 from HW0.out,HL1.out]
   simp)
  go_ret2
  exact⟨_,rfl,by rw [HE.out]; exact H12,HMZ.out.2.1.trans s12⟩
end
section
open Go.RowKit
attribute [local go_sem] Oper.semAt_some
theorem rep_at (k n a b:Nat) (hk:k<n):(List.replicate k a++List.replicate (n-k) b)[k]? = some b:=by
 rw [List.getElem?_append_right (by simp),List.length_replicate,Nat.sub_self,List.getElem?_replicate,if_pos (by omega)]
theorem set_replicate_app (k n a b:Nat) (hk:k<n):(List.replicate k a++List.replicate (n-k) b).set k a=List.replicate (k+1) a++List.replicate (n-(k+1)) b:=by
 rw [List.set_append_right _ _ (by simp),List.length_replicate,Nat.sub_self,show n-k=(n-(k+1))+1 by omega,List.replicate_succ,List.set_cons_zero,List.replicate_succ' (n:=k)]
 simp
theorem push_eq {h:HM} (c t k:Nat) (hcl:h.clsB c=true):
 h.allocH (mkHd c t k)=(if h.size<h.words.length+3+k∨h.last=4294967295 then h else h.pushH ⟨k,t,0,c,0⟩ (List.replicate k (if t=1∨t=4 then h.roots.getD 0 0 else 0)))∧
 h.allocV (mkHd c t k)=(if h.size<h.words.length+3+k∨h.last=4294967295 then .tuple #[.int .u32 0,.int .i64 4] else .tuple #[.int .u32 (2*h.words.length:Nat),.int .i64 0]):=by
 unfold HM.allocH HM.allocV HM.allocE
 have e:mkHd c (t:Int) (k:Int)=⟨k,t,0,c,0⟩:=rfl
 rw [e]
 dsimp only
 rw [hcl]
 have hf:h.fill ⟨k,t,0,c,0⟩=(if t=1∨t=4 then h.roots.getD 0 0 else 0):=by
  unfold HM.fill Hd.ptrB
  by_cases ht:t=1∨t=4
  ·simp [ht]
  ·simp [ht]
 rw [hf]
 by_cases hfull:h.size<h.words.length+3+k∨h.last=4294967295
 ·simp [hfull]
 ·simp [hfull]
section
variable {w:World} {p:HP} {h:HM} (R:RAt w p h) (f:h.Fit)
include R f
set_option maxRecDepth 100000 in
set_option maxHeartbeats 4000000 in
theorem rAlloc_any (c:Nat) (hc:c<4294967296) (t n:Int):
 Calls Tryz.prog 76 #[ptr p.g,.int .u32 c,.int .i64 t,.int .i64 n] w (RMade p (h.AllocH c t n) (h.AllocV c t n) w):=by
 have bad:allocOk t n=false→(h.AllocH c t n=h∧h.AllocV c t n = .tuple #[.int .u32 0,.int .i64 1]):=fun e=>by simp [HM.AllocH,HM.AllocV,e]
 have HK:=Lib.hid (risclass_any R f c hc)
 have HR:=Lib.hid R
 by_cases h1:t<1
 ·have HF:=Lib.hid (bad (by simp [allocOk]; omega))
  clear bad
  go_enter Tryz.func76,Tryz.ntmps76
  go_wp2_with fail
  go_ret2
  exact⟨p,by rw [HF.out.2]; rfl,by rw [HF.out.1]; exact HR.out,Step.refl _ _⟩
 by_cases h2:4<t
 ·have HF:=Lib.hid (bad (by simp [allocOk]; omega))
  clear bad
  go_enter Tryz.func76,Tryz.ntmps76
  go_wp2_with fail
  go_ret2
  exact⟨p,by rw [HF.out.2]; rfl,by rw [HF.out.1]; exact HR.out,Step.refl _ _⟩
 by_cases h3:n<0
 ·have HF:=Lib.hid (bad (by simp [allocOk]; omega))
  clear bad
  go_enter Tryz.func76,Tryz.ntmps76
  go_wp2_with fail
  go_ret2
  exact⟨p,by rw [HF.out.2]; rfl,by rw [HF.out.1]; exact HR.out,Step.refl _ _⟩
 by_cases h4:65535<n
 ·have HF:=Lib.hid (bad (by simp [allocOk]; omega))
  clear bad
  go_enter Tryz.func76,Tryz.ntmps76
  go_wp2_with fail
  go_ret2
  exact⟨p,by rw [HF.out.2]; rfl,by rw [HF.out.1]; exact HR.out,Step.refl _ _⟩
 obtain⟨k,rfl⟩:=Int.eq_ofNat_of_zero_le (by omega:0≤n)
 have hn:k≤65535:=by omega
 unfold ptr at HK ⊢
 cases hcl:h.clsB c
 ·have HF:=Lib.hid (show h.AllocH c t (k:Int)=h∧h.AllocV c t (k:Int) = .tuple #[.int .u32 0,.int .i64 3] by
   unfold HM.AllocH HM.AllocV
   have:allocOk t (k:Int)=true:=by simp [allocOk]; omega
   rw [if_pos this,if_pos this]
   unfold HM.allocH HM.allocV HM.allocE mkHd
   simp [hcl])
  rw [hcl] at HK
  clear hcl bad R
  go_enter Tryz.func76,Tryz.ntmps76
  go_wp2_with fail
  refine HK.out.mono ?_
  rintro e w1 ⟨rfl,rfl⟩
  go_wp2_with fail
  go_ret2
  exact⟨p,by rw [HF.out.2]; rfl,by rw [HF.out.1]; exact HR.out,Step.refl _ _⟩
 ·rw [hcl] at HK
  have hmk:=make_u32 k (by omega)
  have hrl:=f.roots
  have HFIT:=Lib.hid f
  have HCL:=Lib.hid hcl
  have hnp:¬ p.has w.heap.size:=fun hh=>by have:=R.lt hh; omega
  have HNP:=Lib.hid hnp
  clear bad hcl hnp
  rcases (by omega:t=1∨t=4∨t=2∨t=3) with rfl | rfl | rfl | rfl
  ·have HF:=Lib.hid (show h.AllocH c 1 (k:Int)=(if h.size<h.words.length+3+k∨h.last=4294967295 then h else h.pushH ⟨k,1,0,c,0⟩ (List.replicate k (h.roots.getD 0 0)))∧
    h.AllocV c 1 (k:Int)=(if h.size<h.words.length+3+k∨h.last=4294967295 then .tuple #[.int .u32 0,.int .i64 4] else .tuple #[.int .u32 (2*h.words.length:Nat),.int .i64 0]) by
    have hok:allocOk 1 (k:Int)=true:=by simp [allocOk]; omega
    unfold HM.AllocH HM.AllocV
    rw [if_pos hok,if_pos hok]
    exact push_eq c 1 k HCL.out)
   have HLY:=Lib.hid (fun wr hb hr=>rlay_any (w:=wr) (R.below hb) f c 1 0 w.heap.size k (List.replicate k (h.roots.getD 0 0)) hc (by omega) (by omega) hn (by simp) hr HNP.out)
   have HC2:=Lib.hid (fun wr (hb:Below w.heap.size w wr)=>(R.below hb).c2)
   have HC0:=Lib.hid (fun wr (hb:Below w.heap.size w wr)=>(R.below hb).root (i:=0) (by omega))
   generalize h.roots.getD 0 0=r0 at *
   clear R
   go_enter Tryz.func76,Tryz.ntmps76
   go_wp2_with fail
   refine HK.out.mono ?_
   rintro e w1 ⟨rfl,rfl⟩
   go_wp2_with fail
   have HS:=Lib.hid (zcells_row w 32 k 0 (by simp only [maxLen]; omega))
   have HB0:=Lib.hid (show Below w.heap.size w (w.alloc (.cells (zcells (.int .u32 0) k) 32)) from (Below.refl _ _).alloc (Nat.le_refl _) _)
   clear hmk
   go_loopw [11] (fun i wr=>∃ j:Nat,j≤k∧i = .int .i64 j∧Row wr w.heap.size 32 k (u32s (List.replicate j r0++List.replicate (k-j) 0))∧Below w.heap.size w wr) (fun i _=>k-(intOf i).toNat)
   case atStart=>exact⟨0,by omega,rfl,by simpa using HS.out,HB0.out⟩
   case round=>
    obtain⟨j,hj,rfl,hrow,hbel⟩:=hrel
    have HBEL:=Lib.hid hbel
    rcases Nat.lt_or_ge j k with hlt | hge
    ·have hset:=hrow.set j (.int .u32 (r0:Int))
     rw [show (u32s (List.replicate j r0++List.replicate (k-j) 0)).set j (.int .u32 (r0:Int))=u32s (List.replicate (j+1) r0++List.replicate (k-(j+1)) 0) by rw [← set_replicate_app j k r0 0 hlt]; simp [u32s,List.map_set]] at hset
     have hcw:=hrow.cell (i:=j) (u:=.int .u32 0) (by simp only [u32s,List.getElem?_map,rep_at j k r0 0 hlt]; rfl)
     have hcf:=hrow.frozen j
     have HSET:=Lib.hid hset
     have k2:=HC2.out wr hbel
     have k3:=HC0.out wr hbel
     rw [hrl] at k2
     clear hset hrow hbel HS HB0
     have hjk:(j:Int)<(k:Int):=by omega
     go_wp2_with fail
     go_roundw
     case rel=>exact⟨j+1,by omega,by go_num,HSET.out,HBEL.out.setCell (p:=⟨w.heap.size,j,none⟩) (Nat.le_refl _) _⟩
     case measure=>simp [intOf]; omega
    ·obtain rfl:j=k:=by omega
     have hrow':Row wr w.heap.size 32 j (u32s (List.replicate j r0)):=by simpa using hrow
     have HLC:=Lib.hid (HLY.out wr hbel hrow')
     rw [← HF.out.1,← HF.out.2,HM.AllocV_eq] at HLC
     clear hrow hrow' hbel HLY HS HB0
     go_wp2_with fail
     refine HLC.out.mono ?_
     rintro e w2 ⟨p2,rfl,R2,S2⟩
     have HR2:=Lib.hid R2
     have HS2:=Lib.hid S2
     clear R2 S2
     go_wp2_with fail
     go_ret2
     exact⟨p2,by rw [HM.AllocV_eq]; rfl,HR2.out,(Step.of_below HBEL.out).trans HS2.out⟩
  ·have HF:=Lib.hid (show h.AllocH c 4 (k:Int)=(if h.size<h.words.length+3+k∨h.last=4294967295 then h else h.pushH ⟨k,4,0,c,0⟩ (List.replicate k (h.roots.getD 0 0)))∧
    h.AllocV c 4 (k:Int)=(if h.size<h.words.length+3+k∨h.last=4294967295 then .tuple #[.int .u32 0,.int .i64 4] else .tuple #[.int .u32 (2*h.words.length:Nat),.int .i64 0]) by
    have hok:allocOk 4 (k:Int)=true:=by simp [allocOk]; omega
    unfold HM.AllocH HM.AllocV
    rw [if_pos hok,if_pos hok]
    exact push_eq c 4 k HCL.out)
   have HLY:=Lib.hid (fun wr hb hr=>rlay_any (w:=wr) (R.below hb) f c 4 0 w.heap.size k (List.replicate k (h.roots.getD 0 0)) hc (by omega) (by omega) hn (by simp) hr HNP.out)
   have HC2:=Lib.hid (fun wr (hb:Below w.heap.size w wr)=>(R.below hb).c2)
   have HC0:=Lib.hid (fun wr (hb:Below w.heap.size w wr)=>(R.below hb).root (i:=0) (by omega))
   generalize h.roots.getD 0 0=r0 at *
   clear R
   go_enter Tryz.func76,Tryz.ntmps76
   go_wp2_with fail
   refine HK.out.mono ?_
   rintro e w1 ⟨rfl,rfl⟩
   go_wp2_with fail
   have HS:=Lib.hid (zcells_row w 32 k 0 (by simp only [maxLen]; omega))
   have HB0:=Lib.hid (show Below w.heap.size w (w.alloc (.cells (zcells (.int .u32 0) k) 32)) from (Below.refl _ _).alloc (Nat.le_refl _) _)
   clear hmk
   go_loopw [11] (fun i wr=>∃ j:Nat,j≤k∧i = .int .i64 j∧Row wr w.heap.size 32 k (u32s (List.replicate j r0++List.replicate (k-j) 0))∧Below w.heap.size w wr) (fun i _=>k-(intOf i).toNat)
   case atStart=>exact⟨0,by omega,rfl,by simpa using HS.out,HB0.out⟩
   case round=>
    obtain⟨j,hj,rfl,hrow,hbel⟩:=hrel
    have HBEL:=Lib.hid hbel
    rcases Nat.lt_or_ge j k with hlt | hge
    ·have hset:=hrow.set j (.int .u32 (r0:Int))
     rw [show (u32s (List.replicate j r0++List.replicate (k-j) 0)).set j (.int .u32 (r0:Int))=u32s (List.replicate (j+1) r0++List.replicate (k-(j+1)) 0) by rw [← set_replicate_app j k r0 0 hlt]; simp [u32s,List.map_set]] at hset
     have hcw:=hrow.cell (i:=j) (u:=.int .u32 0) (by simp only [u32s,List.getElem?_map,rep_at j k r0 0 hlt]; rfl)
     have hcf:=hrow.frozen j
     have HSET:=Lib.hid hset
     have k2:=HC2.out wr hbel
     have k3:=HC0.out wr hbel
     rw [hrl] at k2
     clear hset hrow hbel HS HB0
     have hjk:(j:Int)<(k:Int):=by omega
     go_wp2_with fail
     go_roundw
     case rel=>exact⟨j+1,by omega,by go_num,HSET.out,HBEL.out.setCell (p:=⟨w.heap.size,j,none⟩) (Nat.le_refl _) _⟩
     case measure=>simp [intOf]; omega
    ·obtain rfl:j=k:=by omega
     have hrow':Row wr w.heap.size 32 j (u32s (List.replicate j r0)):=by simpa using hrow
     have HLC:=Lib.hid (HLY.out wr hbel hrow')
     rw [← HF.out.1,← HF.out.2,HM.AllocV_eq] at HLC
     clear hrow hrow' hbel HLY HS HB0
     go_wp2_with fail
     refine HLC.out.mono ?_
     rintro e w2 ⟨p2,rfl,R2,S2⟩
     have HR2:=Lib.hid R2
     have HS2:=Lib.hid S2
     clear R2 S2
     go_wp2_with fail
     go_ret2
     exact⟨p2,by rw [HM.AllocV_eq]; rfl,HR2.out,(Step.of_below HBEL.out).trans HS2.out⟩
  ·have HF:=Lib.hid (show h.AllocH c 2 (k:Int)=(if h.size<h.words.length+3+k∨h.last=4294967295 then h else h.pushH ⟨k,2,0,c,0⟩ (List.replicate k 0))∧
    h.AllocV c 2 (k:Int)=(if h.size<h.words.length+3+k∨h.last=4294967295 then .tuple #[.int .u32 0,.int .i64 4] else .tuple #[.int .u32 (2*h.words.length:Nat),.int .i64 0]) by
    have hok:allocOk 2 (k:Int)=true:=by simp [allocOk]; omega
    unfold HM.AllocH HM.AllocV
    rw [if_pos hok,if_pos hok]
    exact push_eq c 2 k HCL.out)
   have HLY:=Lib.hid (fun wr hb hr=>rlay_any (w:=wr) (R.below hb) f c 2 0 w.heap.size k (List.replicate k 0) hc (by omega) (by omega) hn (by simp) hr HNP.out)
   clear R
   go_enter Tryz.func76,Tryz.ntmps76
   go_wp2_with fail
   refine HK.out.mono ?_
   rintro e w1 ⟨rfl,rfl⟩
   go_wp2_with fail
   have HS:=Lib.hid (zcells_row w 32 k 0 (by simp only [maxLen]; omega))
   have HB0:=Lib.hid (show Below w.heap.size w (w.alloc (.cells (zcells (.int .u32 0) k) 32)) from (Below.refl _ _).alloc (Nat.le_refl _) _)
   clear hmk
   go_loopw [11] (fun i wr=>i = .int .i64 0∧wr=w.alloc (.cells (zcells (.int .u32 0) k) 32)) (fun _ _=>0)
   case atStart=>exact⟨rfl,rfl⟩
   case round=>
    obtain⟨rfl,rfl⟩:=hrel
    have HLC:=Lib.hid (HLY.out _ HB0.out HS.out)
    rw [← HF.out.1,← HF.out.2,HM.AllocV_eq] at HLC
    clear HLY HS
    rcases Nat.eq_zero_or_pos k with h0 | h0
    ·subst h0
     go_wp2_with fail
     refine HLC.out.mono ?_
     rintro e w2 ⟨p2,rfl,R2,S2⟩
     have HR2:=Lib.hid R2
     have HS2:=Lib.hid S2
     clear R2 S2
     go_wp2_with fail
     go_ret2
     exact⟨p2,by rw [HM.AllocV_eq]; rfl,HR2.out,(Step.of_below HB0.out).trans HS2.out⟩
    ·have hz:decide ((0:Int)<(k:Int))=true:=by simp; omega
     go_wp2_with fail
     refine HLC.out.mono ?_
     rintro e w2 ⟨p2,rfl,R2,S2⟩
     have HR2:=Lib.hid R2
     have HS2:=Lib.hid S2
     clear R2 S2
     go_wp2_with fail
     go_ret2
     exact⟨p2,by rw [HM.AllocV_eq]; rfl,HR2.out,(Step.of_below HB0.out).trans HS2.out⟩
  ·have HF:=Lib.hid (show h.AllocH c 3 (k:Int)=(if h.size<h.words.length+3+k∨h.last=4294967295 then h else h.pushH ⟨k,3,0,c,0⟩ (List.replicate k 0))∧
    h.AllocV c 3 (k:Int)=(if h.size<h.words.length+3+k∨h.last=4294967295 then .tuple #[.int .u32 0,.int .i64 4] else .tuple #[.int .u32 (2*h.words.length:Nat),.int .i64 0]) by
    have hok:allocOk 3 (k:Int)=true:=by simp [allocOk]; omega
    unfold HM.AllocH HM.AllocV
    rw [if_pos hok,if_pos hok]
    exact push_eq c 3 k HCL.out)
   have HLY:=Lib.hid (fun wr hb hr=>rlay_any (w:=wr) (R.below hb) f c 3 0 w.heap.size k (List.replicate k 0) hc (by omega) (by omega) hn (by simp) hr HNP.out)
   clear R
   go_enter Tryz.func76,Tryz.ntmps76
   go_wp2_with fail
   refine HK.out.mono ?_
   rintro e w1 ⟨rfl,rfl⟩
   go_wp2_with fail
   have HS:=Lib.hid (zcells_row w 32 k 0 (by simp only [maxLen]; omega))
   have HB0:=Lib.hid (show Below w.heap.size w (w.alloc (.cells (zcells (.int .u32 0) k) 32)) from (Below.refl _ _).alloc (Nat.le_refl _) _)
   clear hmk
   go_loopw [11] (fun i wr=>i = .int .i64 0∧wr=w.alloc (.cells (zcells (.int .u32 0) k) 32)) (fun _ _=>0)
   case atStart=>exact⟨rfl,rfl⟩
   case round=>
    obtain⟨rfl,rfl⟩:=hrel
    have HLC:=Lib.hid (HLY.out _ HB0.out HS.out)
    rw [← HF.out.1,← HF.out.2,HM.AllocV_eq] at HLC
    clear HLY HS
    rcases Nat.eq_zero_or_pos k with h0 | h0
    ·subst h0
     go_wp2_with fail
     refine HLC.out.mono ?_
     rintro e w2 ⟨p2,rfl,R2,S2⟩
     have HR2:=Lib.hid R2
     have HS2:=Lib.hid S2
     clear R2 S2
     go_wp2_with fail
     go_ret2
     exact⟨p2,by rw [HM.AllocV_eq]; rfl,HR2.out,(Step.of_below HB0.out).trans HS2.out⟩
    ·have hz:decide ((0:Int)<(k:Int))=true:=by simp; omega
     go_wp2_with fail
     refine HLC.out.mono ?_
     rintro e w2 ⟨p2,rfl,R2,S2⟩
     have HR2:=Lib.hid R2
     have HS2:=Lib.hid S2
     clear R2 S2
     go_wp2_with fail
     go_ret2
     exact⟨p2,by rw [HM.AllocV_eq]; rfl,HR2.out,(Step.of_below HB0.out).trans HS2.out⟩
end
end
section
open Go.RowKit
section
variable {w w':World} {p p':HP} {B:Nat} {A:Option Addr} {ds:List Dd}
theorem cell_add {a:Addr} {j:Nat} {v:Value} (h:w.cell? (a.add j)=some v) (hj:0<j):w.cell? ⟨a.block,a.off+j,none⟩=some v:=by
 unfold Addr.add at h
 rw [if_neg (by omega)] at h
 exact h
end
end
section
open Go.RowKit
structure TM where
 slots:List (Nat × Nat)
 cap:Nat
 next:Nat
 now:Nat
def TM.at (t:TM) (k:Nat):Nat × Nat:=t.slots.getD k (0,0)
def usedB (s:Nat × Nat):Bool:=decide (s≠(0,0))
structure TM.Ok (t:TM):Prop where
 len:t.slots.length=256
 lo:1≤t.cap
 hi:t.cap≤256
 off:∀ k,t.cap≤k→t.at k=(0,0)
 used:∀ k,t.at k≠(0,0)→0<(t.at k).1∧0<(t.at k).2
 id64:∀ k,(t.at k).1<18446744073709551616
 exp:∀ k,(t.at k).2≤1099512627776
 n64:t.next<18446744073709551616
 nw:t.now≤1099511627776
 uniq:∀ j k,t.at j≠(0,0)→t.at k≠(0,0)→(t.at j).1=(t.at k).1→j=k
 rise:t.next≠0→∀ k,(t.at k).1<t.next
def TM.fresh (cap first:Nat):TM:=⟨List.replicate 256 (0,0),cap,first,0⟩
def TM.issue (t:TM) (k n:Nat):TM:={ t with slots:=t.slots.set k (t.next,t.now+n),next:=if t.next=18446744073709551615 then 0 else t.next+1 }
def TM.clear (t:TM) (k:Nat):TM:={ t with slots:=t.slots.set k (0,0) }
def TM.renew (t:TM) (k n:Nat):TM:={ t with slots:=t.slots.set k ((t.at k).1,t.now+n) }
def TM.pass (t:TM) (n:Nat):TM:={ t with now:=t.now+n }
section
variable {t:TM}
theorem at_set (l:List (Nat × Nat)) (k:Nat) (v:Nat × Nat) (hk:k<l.length) (j:Nat):(l.set k v).getD j (0,0)=if j=k then v else l.getD j (0,0):=by
 rw [List.getD_eq_getElem?_getD,List.getD_eq_getElem?_getD,List.getElem?_set]
 by_cases h:k=j
 ·subst h
  rw [if_pos rfl,if_pos rfl,if_pos hk]
  rfl
 ·rw [if_neg h,if_neg (fun e=>h e.symm)]
theorem usedB_iff (s:Nat × Nat):usedB s=true↔s≠(0,0):=by unfold usedB; simp
theorem usedB_no (s:Nat × Nat):usedB s=false↔s=(0,0):=by unfold usedB; simp
theorem TM.at_ge (h:t.slots.length=256) {k:Nat} (hk:256≤k):t.at k=(0,0):=by
 unfold TM.at
 rw [List.getD_eq_getElem?_getD,List.getElem?_eq_none (by omega)]
 rfl
theorem TM.Ok.fresh {cap first:Nat} (h1:1≤cap) (h2:cap≤256) (h3:first<18446744073709551616):(TM.fresh cap first).Ok:=by
 have h0:∀ k,(TM.fresh cap first).at k=(0,0):=fun k=>by
  unfold TM.at TM.fresh
  simp only [List.getD_eq_getElem?_getD,List.getElem?_replicate]
  split <;> rfl
 refine⟨List.length_replicate,h1,h2,fun k _=>h0 k,fun k h=>absurd (h0 k) h,fun k=>by rw [h0]; omega,fun k=>by rw [h0]; omega,h3,Nat.zero_le _,fun j k h=>absurd (h0 j) h,fun h k=>?_⟩
 rw [h0]
 have:first≠0:=h
 show 0<first
 omega
theorem TM.Ok.clear (O:t.Ok) {k:Nat} (hk:k<256):(t.clear k).Ok:=by
 have e:∀ j,(t.clear k).at j=if j=k then (0,0) else t.at j:=fun j=>at_set _ _ _ (by rw [O.len]; exact hk) j
 refine⟨by simp [TM.clear,O.len],O.lo,O.hi,fun j hj=>?_,fun j hj=>?_,fun j=>?_,fun j=>?_,O.n64,O.nw,fun i j hi hj he=>?_,fun hn j=>?_⟩
 ·rw [e]; split
  ·rfl
  ·exact O.off j hj
 ·rw [e] at hj ⊢; split at hj
  ·exact absurd rfl hj
  ·rename_i h
   rw [if_neg h]
   exact O.used j hj
 ·rw [e]; split
  ·show 0<_; omega
  ·exact O.id64 j
 ·rw [e]; split
  ·show 0≤_; omega
  ·exact O.exp j
 ·rw [e] at hi hj he
  rw [e] at he
  split at hi
  ·exact absurd rfl hi
  ·rename_i h1
   split at hj
   ·exact absurd rfl hj
   ·rename_i h2
    rw [if_neg h1,if_neg h2] at he
    exact O.uniq i j hi hj he
 ·rw [e]; split
  ·have:t.next≠0:=hn
   show 0<t.next; omega
  ·exact O.rise hn j
theorem TM.Ok.pass (O:t.Ok) {n:Nat} (hn:t.now+n≤1099511627776):(t.pass n).Ok:=⟨O.len,O.lo,O.hi,O.off,O.used,O.id64,O.exp,O.n64,hn,O.uniq,O.rise⟩
theorem TM.Ok.renew (O:t.Ok) {k n:Nat} (hu:t.at k≠(0,0)) (h1:1≤n) (h2:n≤1000000):(t.renew k n).Ok:=by
 have hk:k<256:=by
  rcases Nat.lt_or_ge k 256 with h | h
  ·exact h
  ·exact absurd (TM.at_ge O.len h) hu
 have hkc:¬ t.cap≤k:=fun h=>hu (O.off k h)
 have e:∀ j,(t.renew k n).at j=if j=k then ((t.at k).1,t.now+n) else t.at j:=fun j=>at_set _ _ _ (by rw [O.len]; exact hk) j
 have hnw:=O.nw
 have hu1:=O.used k hu
 refine⟨by simp [TM.renew,O.len],O.lo,O.hi,fun j hj=>?_,fun j hj=>?_,fun j=>?_,fun j=>?_,O.n64,O.nw,fun i j hi hj he=>?_,fun hn j=>?_⟩
 ·rw [e,if_neg (by intro h; subst h; exact hkc hj)]
  exact O.off j hj
 ·rw [e] at hj ⊢; split
  ·exact ⟨hu1.1,show 0<t.now+n by omega⟩
  ·rename_i h
   rw [if_neg h] at hj
   exact O.used j hj
 ·rw [e]; split
  ·exact O.id64 k
  ·exact O.id64 j
 ·rw [e]; split
  ·show t.now+n≤_; omega
  ·exact O.exp j
 ·rw [e] at hi hj he
  rw [e] at he
  by_cases h1:i=k
  ·by_cases h2:j=k
   ·omega
   ·rw [if_pos h1,if_neg h2] at he
    rw [if_neg h2] at hj
    rw [h1]
    exact O.uniq k j hu hj he
  ·rw [if_neg h1] at hi
   by_cases h2:j=k
   ·rw [if_neg h1,if_pos h2] at he
    rw [h2]
    exact O.uniq i k hi hu he
   ·rw [if_neg h1,if_neg h2] at he
    rw [if_neg h2] at hj
    exact O.uniq i j hi hj he
 ·rw [e]; split
  ·exact O.rise hn k
  ·exact O.rise hn j
theorem TM.Ok.issue (O:t.Ok) {k n:Nat} (hk:k<t.cap) (hf:t.at k=(0,0)) (h0:t.next≠0) (h1:1≤n) (h2:n≤1000000):(t.issue k n).Ok:=by
 have hk2:k<256:=Nat.lt_of_lt_of_le hk O.hi
 have e:∀ j,(t.issue k n).at j=if j=k then (t.next,t.now+n) else t.at j:=fun j=>at_set _ _ _ (by rw [O.len]; exact hk2) j
 have hnw:=O.nw
 have hn64:=O.n64
 have hr:=O.rise h0
 refine⟨by simp [TM.issue,O.len],O.lo,O.hi,fun j hj=>?_,fun j hj=>?_,fun j=>?_,fun j=>?_,?_,O.nw,fun i j hi hj he=>?_,fun hn j=>?_⟩
 ·have hj:t.cap≤j:=hj
  rw [e,if_neg (by omega)]
  exact O.off j hj
 ·rw [e] at hj ⊢; split
  ·exact ⟨show 0<t.next by omega,show 0<t.now+n by omega⟩
  ·rename_i h
   rw [if_neg h] at hj
   exact O.used j hj
 ·rw [e]; split
  ·exact hn64
  ·exact O.id64 j
 ·rw [e]; split
  ·show t.now+n≤_; omega
  ·exact O.exp j
 ·show (if t.next=18446744073709551615 then 0 else t.next+1)<_
  split <;> omega
 ·rw [e] at hi hj he
  rw [e] at he
  by_cases h1:i=k
  ·by_cases h2:j=k
   ·omega
   ·rw [if_pos h1,if_neg h2] at he
    have he:t.next=(t.at j).1:=he
    have:=hr j
    omega
  ·by_cases h2:j=k
   ·rw [if_neg h1,if_pos h2] at he
    have he:(t.at i).1=t.next:=he
    have:=hr i
    omega
   ·rw [if_neg h1,if_neg h2] at he
    rw [if_neg h1] at hi
    rw [if_neg h2] at hj
    exact O.uniq i j hi hj he
 ·have hnx:(t.issue k n).next=t.next+1:=by
   show (if t.next=18446744073709551615 then 0 else t.next+1)=_
   rw [if_neg]
   intro hh
   exact hn (show (if t.next=18446744073709551615 then 0 else t.next+1)=0 by rw [if_pos hh])
  rw [hnx,e]
  split
  ·exact Nat.lt_succ_self _
  ·have:=hr j
   omega
end
def TM.find (t:TM) (id:Nat):Nat:=t.slots.findIdx (fun s=>s.1 == id)
def TM.free (t:TM):Nat:=(t.slots.take t.cap).findIdx (fun s=>decide (s=(0,0)))
section
variable {t:TM}
theorem TM.at_get {k:Nat} (hk:k<t.slots.length):t.at k=t.slots[k]:=by
 unfold TM.at
 rw [List.getD_eq_getElem?_getD,List.getElem?_eq_getElem hk]
 rfl
theorem TM.find_lt (O:t.Ok) {id:Nat} (h0:id≠0) (hf:t.find id<256):(t.at (t.find id)).1=id∧t.at (t.find id)≠(0,0):=by
 have hl:t.find id<t.slots.length:=by rw [O.len]; exact hf
 have h1:=List.findIdx_getElem (xs:=t.slots) (p:=fun s:Nat × Nat=>s.1 == id) (w:=hl)
 rw [TM.at_get hl]
 have h2:(t.slots[t.find id]).1=id:=eq_of_beq h1
 refine⟨h2,fun e=>h0 ?_⟩
 rw [e] at h2
 exact h2.symm
theorem TM.find_no (O:t.Ok) {id:Nat} (hf:¬ t.find id<256) (k:Nat) (hk:k<256):(t.at k).1≠id:=by
 have hl:k<t.slots.length:=by rw [O.len]; exact hk
 have h1:=List.not_of_lt_findIdx (xs:=t.slots) (p:=fun s=>s.1 == id) (i:=k) (by
  have:t.slots.findIdx (fun s=>s.1 == id)=t.find id:=rfl
  omega)
 rw [TM.at_get hl]
 simpa using h1
theorem TM.find_eq (O:t.Ok) {k:Nat} (hu:t.at k≠(0,0)):t.find (t.at k).1=k:=by
 have hk:k<256:=by
  rcases Nat.lt_or_ge k 256 with h | h
  ·exact h
  ·exact absurd (TM.at_ge O.len h) hu
 have h0:=(O.used k hu).1
 by_cases hf:t.find (t.at k).1<256
 ·have h:=TM.find_lt O (by omega) hf
  exact O.uniq _ _ h.2 hu h.1
 ·exact absurd rfl (TM.find_no O hf k hk)
theorem TM.free_lt (O:t.Ok) (hf:t.free<t.cap):t.at t.free=(0,0):=by
 have hhi:=O.hi
 have hlen:=O.len
 have hl:t.free<(t.slots.take t.cap).length:=by rw [List.length_take]; omega
 have h1:=List.findIdx_getElem (xs:=t.slots.take t.cap) (p:=fun s=>decide (s=(0,0))) (w:=hl)
 rw [TM.at_get (by omega)]
 have h2:(t.slots.take t.cap)[t.free]=(0,0):=of_decide_eq_true h1
 rw [List.getElem_take] at h2
 exact h2
end
def HM.arr (h:HM):Nat:=h.roots.getD 40 0
def HM.objK (h:HM) (k:Nat):Nat:=h.readN h.arr k [1,4]
def HM.badA (h:HM) (cap:Nat):Bool:= !(h.isB h.arr && decide ((h.hd (h.arr / 2)).fmt=1) && decide (cap≤(h.hd (h.arr / 2)).size))
def lostK (h:HM) (t:TM) (k:Nat):Bool:=usedB (t.at k) && !h.isB (h.objK k)
def brkB (h:HM) (t:TM):Bool:=h.badA t.cap || (List.range 256).any (lostK h t)
def HM.clrK (h:HM) (k:Nat):HM:=h.putH h.arr k (h.roots.getD 0 0)
def leaseB (n:Int):Bool:=decide (1≤n) && decide (n≤1000000)
def issE (h:HM) (t:TM) (o:Nat) (n:Int):Nat:=
 if brkB h t then 164 else if h.isB o=false then 3 else if leaseB n=false then 162 else if ¬ t.free<t.cap then 161 else if t.next=0 then 163 else 0
def issT (h:HM) (t:TM) (o:Nat) (n:Int):TM:=if issE h t o n=0 then t.issue t.free n.toNat else t
def issH (h:HM) (t:TM) (o:Nat) (n:Int):HM:=if issE h t o n=0 then h.putH h.arr t.free o else h
def issV (h:HM) (t:TM) (o:Nat) (n:Int):Nat:=if issE h t o n=0 then t.next else 0
def fndE (h:HM) (t:TM) (id:Nat):Nat:=if brkB h t then 164 else if id=0∨¬ t.find id<256 then 160 else 0
def fndK (h:HM) (t:TM) (id:Nat):Nat:=if fndE h t id=0 then t.find id else 0
def gotV (h:HM) (t:TM) (id:Nat):Nat:=if fndE h t id=0 then h.objK (t.find id) else 0
def rnwE (h:HM) (t:TM) (id:Nat) (n:Int):Nat:=if fndE h t id=0 then (if leaseB n then 0 else 162) else fndE h t id
def rnwT (h:HM) (t:TM) (id:Nat) (n:Int):TM:=if rnwE h t id n=0 then t.renew (t.find id) n.toNat else t
def relT (h:HM) (t:TM) (id:Nat):TM:=if fndE h t id=0 then t.clear (t.find id) else t
def relH (h:HM) (t:TM) (id:Nat):HM:=if fndE h t id=0 then h.clrK (t.find id) else h
def TM.clears (t:TM) (ks:List Nat):TM:=ks.foldl TM.clear t
def HM.clrs (h:HM) (ks:List Nat):HM:=ks.foldl HM.clrK h
def TM.goneB (t:TM) (k:Nat):Bool:=usedB (t.at k) && decide ((t.at k).2≤t.now)
def TM.goneK (t:TM) (j:Nat):List Nat:=(List.range j).filter t.goneB
def TM.usedK (t:TM) (j:Nat):List Nat:=(List.range j).filter fun k=>usedB (t.at k)
def TM.ids (t:TM) (ks:List Nat):List Nat:=ks.map fun k=>(t.at k).1
def tikE (h:HM) (t:TM) (n:Int):Nat:=if brkB h t then 164 else if n<0∨(1099511627776-t.now:Int)<n then 1 else 0
def tikT (h:HM) (t:TM) (n:Int):TM:=if tikE h t n=0 then (t.pass n.toNat).clears ((t.pass n.toNat).goneK 256) else t
def tikH (h:HM) (t:TM) (n:Int):HM:=if tikE h t n=0 then h.clrs ((t.pass n.toNat).goneK 256) else h
def sortN (l:List Nat):List Nat:=l.mergeSort (fun x y=>decide (x≤y))
def tikL (h:HM) (t:TM) (n:Int):List Nat:=if tikE h t n=0 then sortN ((t.pass n.toNat).ids ((t.pass n.toNat).goneK 256)) else []
def cleT (h:HM) (t:TM):TM:=if brkB h t then t else t.clears (t.usedK 256)
def cleH (h:HM) (t:TM):HM:=if brkB h t then h else h.clrs (t.usedK 256)
def cleN (h:HM) (t:TM):Nat:=if brkB h t then 0 else (t.usedK 256).length
def TM.liveK (t:TM):List Nat:=(t.usedK 256).mergeSort (fun j k=>decide ((t.at j).1≤(t.at k).1))
end
section
open Go.RowKit
section
variable {t:TM} {h:HM}
theorem TM.clear_at (hl:t.slots.length=256) {k:Nat} (hk:k<256) (j:Nat):(t.clear k).at j=if j=k then (0,0) else t.at j:=at_set _ _ _ (by rw [hl]; exact hk) j
theorem TM.clear_len (k:Nat):(t.clear k).slots.length=t.slots.length:=by simp [TM.clear]
theorem TM.clear_comm (t:TM) (j k:Nat):(t.clear j).clear k=(t.clear k).clear j:=by
 unfold TM.clear
 simp only [TM.mk.injEq,and_true]
 by_cases h:j=k
 ·rw [h]
 ·exact List.set_comm _ _ h
theorem TM.clears_perm (t:TM) {a b:List Nat} (p:a.Perm b):t.clears a=t.clears b:=p.foldl_eq' (fun x _ y _ z=>TM.clear_comm z x y) t
theorem TM.clears_snoc (t:TM) (a:List Nat) (k:Nat):t.clears (a++[k])=(t.clears a).clear k:=by unfold TM.clears; rw [List.foldl_append]; rfl
theorem TM.clears_same (a:List Nat):∀ t:TM,(t.clears a).cap=t.cap∧(t.clears a).next=t.next∧(t.clears a).now=t.now:=by
 induction a with
 | nil=>intro t; exact⟨rfl,rfl,rfl⟩
 | cons k a ih=>intro t; exact ih (t.clear k)
theorem TM.clears_at (a:List Nat):∀ t:TM,t.slots.length=256→(∀ k∈a,k<256)→∀ j,(t.clears a).at j=if j∈a then (0,0) else t.at j:=by
 induction a with
 | nil=>intro t _ _ j; simp [TM.clears]
 | cons k a ih=>
   intro t hl ha j
   have hk:=ha k (List.mem_cons_self ..)
   show ((t.clear k).clears a).at j=_
   rw [ih (t.clear k) (by rw [TM.clear_len]; exact hl) (fun x hx=>ha x (List.mem_cons_of_mem _ hx)) j,TM.clear_at hl hk]
   by_cases h1:j∈a
   ·rw [if_pos h1,if_pos (List.mem_cons_of_mem _ h1)]
   ·rw [if_neg h1]
    by_cases h2:j=k
    ·rw [if_pos h2,if_pos (by rw [h2]; exact List.mem_cons_self ..)]
    ·rw [if_neg h2,if_neg (by
      intro h
      rcases List.mem_cons.1 h with h | h
      ·exact h2 h
      ·exact h1 h)]
theorem TM.Ok.clears (a:List Nat):∀ {t:TM},t.Ok→(∀ k∈a,k<256)→(t.clears a).Ok:=by
 induction a with
 | nil=>intro t O _; exact O
 | cons k a ih=>intro t O ha; exact ih (O.clear (ha k (List.mem_cons_self ..))) (fun x hx=>ha x (List.mem_cons_of_mem _ hx))
theorem TM.usedK_lt (t:TM) (j:Nat):∀ k∈t.usedK j,k<j:=fun k hk=>List.mem_range.1 (List.mem_filter.1 hk).1
theorem TM.goneK_succ (t:TM) (j:Nat):t.goneK (j+1)=if t.goneB j then t.goneK j++[j] else t.goneK j:=by
 unfold TM.goneK
 rw [List.range_succ,List.filter_append]
 by_cases h:t.goneB j=true
 ·rw [if_pos h,List.filter_cons,if_pos h]; rfl
 ·rw [if_neg h,List.filter_cons,if_neg h]; simp
theorem TM.usedK_succ (t:TM) (j:Nat):t.usedK (j+1)=if usedB (t.at j) then t.usedK j++[j] else t.usedK j:=by
 unfold TM.usedK
 rw [List.range_succ,List.filter_append]
 by_cases h:usedB (t.at j)=true
 ·rw [if_pos h,List.filter_cons,if_pos h]; rfl
 ·rw [if_neg h,List.filter_cons,if_neg h]; simp
theorem TM.usedK_len (t:TM) (j:Nat):(t.usedK j).length≤j:=by
 have:=List.length_filter_le (fun k=>usedB (t.at k)) (List.range j)
 rw [List.length_range] at this
 exact this
theorem TM.goneK_len (t:TM) (j:Nat):(t.goneK j).length≤j:=by
 have:=List.length_filter_le t.goneB (List.range j)
 rw [List.length_range] at this
 exact this
theorem putH_same (h:HM) (o:Nat) (i:Int) (v:Nat):(h.putH o i v).size=h.size∧(h.putH o i v).starts=h.starts∧(h.putH o i v).roots=h.roots∧(h.putH o i v).last=h.last∧(h.putH o i v).words.length=h.words.length:=by
 unfold HM.putH
 split
 ·exact ⟨rfl,rfl,rfl,rfl,by simp [HM.setF]⟩
 ·exact ⟨rfl,rfl,rfl,rfl,rfl⟩
theorem setF_w (h:HM) (o k v i:Nat) (hi:i≠o / 2+3+k):(h.setF o k v).w i=h.w i:=by
 unfold HM.w HM.setF
 simp only
 rw [List.getD_eq_getElem?_getD,List.getD_eq_getElem?_getD,List.getElem?_set]
 rw [if_neg (fun e=>hi e.symm)]
theorem setF_hd (h:HM) (o k v:Nat):(h.setF o k v).hd (o / 2)=h.hd (o / 2):=by
 unfold HM.hd
 rw [setF_w _ _ _ _ _ (by omega),setF_w _ _ _ _ _ (by omega),setF_w _ _ _ _ _ (by omega)]
theorem putH_hd (h:HM) (o:Nat) (i:Int) (v:Nat):(h.putH o i v).hd (o / 2)=h.hd (o / 2):=by
 unfold HM.putH
 split
 ·exact setF_hd ..
 ·rfl
theorem putH_isB (h:HM) (o:Nat) (i:Int) (v x:Nat):(h.putH o i v).isB x=h.isB x:=HM.isB_same (putH_same h o i v).2.1 x
theorem putH_lookE (h:HM) (o:Nat) (i:Int) (v:Nat) (j:Int) (fs:List Nat):(h.putH o i v).lookE o j fs=h.lookE o j fs:=by
 unfold HM.lookE
 rw [putH_isB,putH_hd]
theorem putH_putE (h:HM) (o:Nat) (i:Int) (v:Nat) (j:Int) (u:Nat):(h.putH o i v).putE o j u=h.putE o j u:=by
 unfold HM.putE
 rw [putH_lookE,HM.valB_same (putH_same h o i v).2.1]
theorem putH_comm (h:HM) (o:Nat) (i j:Int) (v:Nat):(h.putH o i v).putH o j v=(h.putH o j v).putH o i v:=by
 have e1:=putH_putE h o i v j v
 have e2:=putH_putE h o j v i v
 unfold HM.putH at e1 e2 ⊢
 by_cases h1:h.putE o i v=0
 ·by_cases h2:h.putE o j v=0
  ·rw [if_pos h1] at e1
   rw [if_pos h2] at e2
   rw [if_pos h1,if_pos h2,e1,e2,if_pos h1,if_pos h2]
   unfold HM.setF
   simp only [HM.mk.injEq,and_true,true_and]
   by_cases h3:o / 2+3+i.toNat=o / 2+3+j.toNat
   ·rw [h3]
   ·exact List.set_comm _ _ h3
  ·rw [if_pos h1] at e1
   rw [if_pos h1,if_neg h2,e1,if_neg h2,if_pos h1]
 ·by_cases h2:h.putE o j v=0
  ·rw [if_pos h2] at e2
   rw [if_neg h1,if_pos h2,e2,if_neg h1]
  ·rw [if_neg h1,if_neg h2,if_neg h1]
theorem clrK_arr (h:HM) (k:Nat):(h.clrK k).arr=h.arr:=by unfold HM.clrK HM.arr; rw [(putH_same ..).2.2.1]
theorem clrK_comm (h:HM) (j k:Nat):(h.clrK j).clrK k=(h.clrK k).clrK j:=by
 have r1:∀ x,(h.clrK x).roots=h.roots:=fun x=>(putH_same ..).2.2.1
 have a1:∀ x y,(h.clrK x).clrK y=(h.clrK x).putH h.arr y (h.roots.getD 0 0):=fun x y=>by
  show (h.clrK x).putH (h.clrK x).arr y ((h.clrK x).roots.getD 0 0)=_
  rw [clrK_arr,r1]
 rw [a1,a1]
 exact putH_comm h h.arr j k _
theorem clrs_perm (h:HM) {a b:List Nat} (p:a.Perm b):h.clrs a=h.clrs b:=p.foldl_eq' (fun x _ y _ z=>clrK_comm z x y) h
theorem clrs_snoc (h:HM) (a:List Nat) (k:Nat):h.clrs (a++[k])=(h.clrs a).clrK k:=by unfold HM.clrs; rw [List.foldl_append]; rfl
end
end
section
open Go.RowKit
section
variable {t:TM}
theorem liveK_perm (t:TM):t.liveK.Perm (t.usedK 256):=List.mergeSort_perm _ _
theorem liveK_sorted (t:TM):t.liveK.Pairwise (fun j k=>(t.at j).1≤(t.at k).1):=by
 have h:=List.pairwise_mergeSort (le:=fun j k=>decide ((t.at j).1≤(t.at k).1)) (fun a b c h1 h2=>by
  simp only [decide_eq_true_eq] at *
  omega) (fun a b=>by
  simp only [Bool.or_eq_true,decide_eq_true_eq]
  omega) (t.usedK 256)
 exact h.imp fun hh=>by simpa using hh
theorem mem_usedK {j k:Nat}:k∈t.usedK j↔k<j∧t.at k≠(0,0):=by
 unfold TM.usedK
 rw [List.mem_filter,List.mem_range,usedB_iff]
theorem mem_liveK {k:Nat}:k∈t.liveK↔k<256∧t.at k≠(0,0):=(liveK_perm t).mem_iff.trans mem_usedK
theorem goneK_filter (t:TM):(t.usedK 256).filter t.goneB=t.goneK 256:=by
 unfold TM.usedK TM.goneK
 rw [List.filter_filter]
 refine List.filter_congr fun k _=>?_
 unfold TM.goneB
 cases usedB (t.at k) <;> simp
theorem goneL_perm (t:TM):(t.liveK.filter t.goneB).Perm (t.goneK 256):=by
 rw [← goneK_filter]
 exact (liveK_perm t).filter _
theorem sortN_ids (t:TM):sortN (t.ids (t.goneK 256))=t.ids (t.liveK.filter t.goneB):=by
 unfold sortN TM.ids
 refine List.Perm.eq_of_pairwise (le:=fun x y:Nat=>x≤y) (fun a b _ _ h1 h2=>by omega) ?_ ?_ ?_
 ·have h:=List.pairwise_mergeSort (le:=fun x y:Nat=>decide (x≤y)) (fun a b c h1 h2=>by
   simp only [decide_eq_true_eq] at *
   omega) (fun a b=>by
   simp only [Bool.or_eq_true,decide_eq_true_eq]
   omega) ((t.goneK 256).map fun k=>(t.at k).1)
  exact h.imp fun hh=>by simpa using hh
 ·rw [List.pairwise_map]
  exact (liveK_sorted t).sublist List.filter_sublist
 ·exact (List.mergeSort_perm _ _).trans ((goneL_perm t).map _).symm
theorem liveK_nodup (t:TM):t.liveK.Nodup:=(liveK_perm t).nodup_iff.2 ((List.nodup_range).sublist List.filter_sublist)
end
end
section
open Go.RowKit
def slC (l:List (Nat × Nat)):List Value:=l.flatMap fun s=>[.int .u64 (s.1:Int),.int .i64 (s.2:Int)]
theorem slC_cons (s:Nat × Nat) (l:List (Nat × Nat)):slC (s :: l) = .int .u64 (s.1:Int) :: .int .i64 (s.2:Int) :: slC l:=rfl
theorem slC_len:∀ l:List (Nat × Nat),(slC l).length=2*l.length
 | []=>rfl
 | s :: l=>by rw [slC_cons,List.length_cons,List.length_cons,List.length_cons,slC_len l]; omega
theorem slC_get:∀ (l:List (Nat × Nat)) (k:Nat),k<l.length→(slC l)[2*k]? = some (.int .u64 ((l.getD k (0,0)).1:Int))∧(slC l)[2*k+1]? = some (.int .i64 ((l.getD k (0,0)).2:Int))
 | [],k,h=>absurd h (Nat.not_lt_zero _)
 | s :: l,0,_=>⟨rfl,rfl⟩
 | s :: l,k+1,h=>by
   have:=slC_get l k (by simpa using h)
   rw [slC_cons,show 2*(k+1)=2*k+1+1 by omega]
   simpa using this
theorem slC_set:∀ (l:List (Nat × Nat)) (k:Nat) (v:Nat × Nat),slC (l.set k v)=((slC l).set (2*k) (.int .u64 (v.1:Int))).set (2*k+1) (.int .i64 (v.2:Int))
 | [],k,v=>by simp [slC]
 | s :: l,0,v=>rfl
 | s :: l,k+1,v=>by
   rw [List.set_cons_succ,slC_cons,slC_cons,slC_set l k v,show 2*(k+1)=2*k+1+1 by omega]
   rfl
def TM.cells (t:TM) (g:Nat):List Value:=.pointer (some ⟨g,0,none⟩) :: (slC t.slots++[.int .i64 (t.cap:Int),.int .u64 (t.next:Int),.int .i64 (t.now:Int)])
theorem cells_slot {t:TM} (hl:t.slots.length=256) (g:Nat) {k:Nat} (hk:k<256):
 (t.cells g)[1+2*k]? = some (.int .u64 ((t.at k).1:Int))∧(t.cells g)[1+2*k+1]? = some (.int .i64 ((t.at k).2:Int)):=by
 have h:=slC_get t.slots k (by omega)
 have h1:=slC_len t.slots
 unfold TM.cells
 rw [show 1+2*k=2*k+1 by omega,List.getElem?_cons_succ,List.getElem?_cons_succ,List.getElem?_append_left (by omega),List.getElem?_append_left (by omega)]
 exact h
theorem cells_tail {t:TM} (hl:t.slots.length=256) (g:Nat):(t.cells g)[513]? = some (.int .i64 (t.cap:Int))∧(t.cells g)[514]? = some (.int .u64 (t.next:Int))∧(t.cells g)[515]? = some (.int .i64 (t.now:Int)):=by
 have h1:(slC t.slots).length=512:=by rw [slC_len,hl]
 unfold TM.cells
 rw [show 513=512+1 from rfl,show 514=513+1 from rfl,show 515=514+1 from rfl,List.getElem?_cons_succ,List.getElem?_cons_succ,List.getElem?_cons_succ,
  List.getElem?_append_right (by omega),List.getElem?_append_right (by omega),List.getElem?_append_right (by omega),h1]
 exact⟨rfl,rfl,rfl⟩
theorem set_arr (l:List Value) (i:Nat) (v:Value):l.toArray.setIfInBounds i v=(l.set i v).toArray:=by simp
theorem cells_put (t:TM) (g k:Nat) (v:Nat × Nat):((t.cells g).set (1+2*k) (.int .u64 (v.1:Int))).set (1+2*k+1) (.int .i64 (v.2:Int))=({ t with slots:=t.slots.set k v }:TM).cells g∨t.slots.length≤k:=by
 rcases Nat.lt_or_ge k t.slots.length with hk | hk
 ·left
  have h1:=slC_len t.slots
  unfold TM.cells
  simp only
  rw [show 1+2*k=2*k+1 by omega,List.set_cons_succ,List.set_cons_succ,List.set_append_left _ _ (by omega),List.set_append_left _ _ (by rw [List.length_set]; omega),slC_set]
 ·exact .inr hk
theorem cells_exp (t:TM) (g k n:Nat) (hk:k<t.slots.length):(t.cells g).set (1+2*k+1) (.int .i64 (n:Int))=({ t with slots:=t.slots.set k ((t.at k).1,n) }:TM).cells g:=by
 have h:=(cells_put t g k ((t.at k).1,n)).resolve_right (by omega)
 rw [← h]
 congr 1
 have h1:=slC_len t.slots
 have h2:=(slC_get t.slots k hk).1
 have h3:(t.cells g)[1+2*k]? = some (.int .u64 ((t.at k).1:Int)):=by
  unfold TM.cells
  rw [show 1+2*k=2*k+1 by omega,List.getElem?_cons_succ,List.getElem?_append_left (by omega)]
  exact h2
 obtain⟨hi,e⟩:=List.getElem?_eq_some_iff.1 h3
 rw [← e,List.set_getElem_self]
theorem cells_next {t:TM} (hl:t.slots.length=256) (g n:Nat):(t.cells g).set 514 (.int .u64 (n:Int))=({ t with next:=n }:TM).cells g:=by
 have h1:(slC t.slots).length=512:=by rw [slC_len,hl]
 unfold TM.cells
 simp only
 rw [show 514=513+1 from rfl,List.set_cons_succ,List.set_append_right _ _ (by omega),h1]
 rfl
theorem cells_now {t:TM} (hl:t.slots.length=256) (g n:Nat):(t.cells g).set 515 (.int .i64 (n:Int))=({ t with now:=n }:TM).cells g:=by
 have h1:(slC t.slots).length=512:=by rw [slC_len,hl]
 unfold TM.cells
 simp only
 rw [show 515=514+1 from rfl,List.set_cons_succ,List.set_append_right _ _ (by omega),h1]
 rfl
structure HT (W w:World) (p:HP) (g gt:Nat) (h:HM) (t:TM):Prop where
 live:Live W w p g h
 tab:Blk w gt 96 (t.cells g).toArray
 ok:t.Ok
 new:W.heap.size≤gt
structure HKeep (p:HP) (gt:Nat) (w w':World):Prop where
 os:w'.os=w.os
 tape:w'.tape=w.tape
 output:w'.output=w.output
 size:w.heap.size≤w'.heap.size
 block:∀ k,k<w.heap.size→¬ p.has k→k≠gt→w'.heap[k]? = w.heap[k]?
section
variable {W w w' w'':World} {p:HP} {g gt:Nat} {h h':HM} {t t':TM}
theorem HT.apart (T:HT W w p g gt h t):¬ p.has gt:=by
 obtain⟨hb,hw,hs,hr⟩:=T.live.at_
 rintro (e | e | e | e)
 ·exact T.tab.ne_ hb (by decide) e
 ·exact Row.ne_blk hw T.tab (by decide) e.symm
 ·exact Row.ne_blk hs T.tab (by decide) e.symm
 ·exact Row.ne_blk hr T.tab (by decide) e.symm
theorem HT.after (T:HT W w p g gt h t) (hb:Below w.heap.size w w'):HT W w' p g gt h t:=⟨T.live.after hb,T.tab.below hb T.tab.lt,T.ok,T.new⟩
theorem HT.same (T:HT W w p g gt h t) (hs:∀ k,p.has k∨k=gt→w'.heap[k]? = w.heap[k]?) (hb:Below W.heap.size W w'):HT W w' p g gt h t:=
 ⟨⟨T.live.at_.same fun k hk=>hs k (.inl hk),T.live.hg,T.live.good,T.live.env,T.live.new,hb⟩,T.tab.same (hs gt (.inr rfl)),T.ok,T.new⟩
theorem heap_set5 (w:World) (g:Nat) (a b c d e:Value) (k:Nat) (hk:k≠g):(((((w.setCell ⟨g,0,none⟩ a).setCell ⟨g,1,none⟩ b).setCell ⟨g,2,none⟩ c).setCell ⟨g,3,none⟩ d).setCell ⟨g,4,none⟩ e).heap[k]? = w.heap[k]? :=by
 rw [Below.heap_setCell _ ⟨g,4,none⟩ _ _ hk,Below.heap_setCell _ ⟨g,3,none⟩ _ _ hk,Below.heap_setCell _ ⟨g,2,none⟩ _ _ hk,Below.heap_setCell _ ⟨g,1,none⟩ _ _ hk,Below.heap_setCell _ ⟨g,0,none⟩ _ _ hk]
theorem below_five {B:Nat} {W w:World} {a b c d e:Value} {g:Nat} (h:Below B W w) (hg:B≤g):Below B W (((((w.setCell ⟨g,0,none⟩ a).setCell ⟨g,1,none⟩ b).setCell ⟨g,2,none⟩ c).setCell ⟨g,3,none⟩ d).setCell ⟨g,4,none⟩ e):=
 ((((h.setCell (p:=⟨g,0,none⟩) hg _).setCell (p:=⟨g,1,none⟩) hg _).setCell (p:=⟨g,2,none⟩) hg _).setCell (p:=⟨g,3,none⟩) hg _).setCell (p:=⟨g,4,none⟩) hg _
theorem HT.drew (T:HT W w p g gt h t):HT W w.drew p g gt h t:=T.after (below_drew (Below.refl _ _))
theorem HKeep.refl (p:HP) (gt:Nat) (w:World):HKeep p gt w w:=⟨rfl,rfl,rfl,Nat.le_refl _,fun _ _ _ _=>rfl⟩
theorem HKeep.of_below (hb:Below w.heap.size w w'):HKeep p gt w w':=⟨hb.os,hb.tape,hb.output,hb.size,fun k hk _ _=>hb.block k hk⟩
theorem HKeep.of_step (s:Step p p w w'):HKeep p gt w w':=⟨s.os,s.tape,s.output,s.size,fun k hk hn _=>s.block k hk hn⟩
theorem HKeep.trans (a:HKeep p gt w w') (b:HKeep p gt w' w''):HKeep p gt w w'':=
 ⟨b.os.trans a.os,b.tape.trans a.tape,b.output.trans a.output,Nat.le_trans a.size b.size,fun k hk hn hg=>(b.block k (Nat.lt_of_lt_of_le hk a.size) hn hg).trans (a.block k hk hn hg)⟩
theorem HKeep.after (a:HKeep p gt w w') (hb:Below w'.heap.size w' w''):HKeep p gt w w'':=a.trans (.of_below hb)
theorem HKeep.setCell (a:HKeep p gt w w') (i:Nat) (v:Value):HKeep p gt w (w'.setCell ⟨gt,i,none⟩ v):=
 ⟨a.os,a.tape,a.output,by simpa [World.setCell] using a.size,fun k hk hn hg=>(Below.heap_setCell w' ⟨gt,i,none⟩ v k hg).trans (a.block k hk hn hg)⟩
theorem HKeep.drew (a:HKeep p gt w w'):HKeep p gt w w'.drew:=⟨a.os,a.tape,a.output,a.size,a.block⟩
theorem HT.heap (T:HT W w p g gt h t) (L:Live W w' p g h') (s:Step p p w w'):HT W w' p g gt h' t:=⟨L,T.tab.same (s.block gt T.tab.lt T.apart),T.ok,T.new⟩
theorem HT.write (T:HT W w p g gt h t) (i:Nat) (v:Value):Live W (w.setCell ⟨gt,i,none⟩ v) p g h∧Blk (w.setCell ⟨gt,i,none⟩ v) gt 96 ((t.cells g).set i v).toArray:=by
 refine⟨⟨T.live.at_.same fun k hk=>Below.heap_setCell w ⟨gt,i,none⟩ v k (fun e=>T.apart ((show k=gt from e) ▸ hk)),T.live.hg,T.live.good,T.live.env,T.live.new,T.live.below.setCell (p:=⟨gt,i,none⟩) T.new _⟩,?_⟩
 have:=T.tab.set_ i v
 rw [set_arr] at this
 exact this
theorem HT.slot (T:HT W w p g gt h t) {k:Nat} (hk:k<256) (v:Nat × Nat) (O:({ t with slots:=t.slots.set k v }:TM).Ok):
 HT W ((w.setCell ⟨gt,1+k*2,none⟩ (.int .u64 (v.1:Int))).setCell ⟨gt,1+k*2+1,none⟩ (.int .i64 (v.2:Int))) p g gt h { t with slots:=t.slots.set k v }:=by
 rw [Nat.mul_comm k 2]
 have h1:=T.write (1+2*k) (.int .u64 (v.1:Int))
 have hn:=T.apart
 refine⟨⟨h1.1.at_.same fun j hj=>Below.heap_setCell _ ⟨gt,1+2*k+1,none⟩ _ j (fun e=>hn ((show j=gt from e) ▸ hj)),h1.1.hg,h1.1.good,h1.1.env,h1.1.new,h1.1.below.setCell (p:=⟨gt,1+2*k+1,none⟩) T.new _⟩,?_,O,T.new⟩
 have h2:=h1.2.set_ (1+2*k+1) (.int .i64 (v.2:Int))
 rw [set_arr,(cells_put t g k v).resolve_right (by rw [T.ok.len]; omega)] at h2
 exact h2
theorem HT.expiry (T:HT W w p g gt h t) {k:Nat} (hk:k<256) (n:Nat) (O:({ t with slots:=t.slots.set k ((t.at k).1,n) }:TM).Ok):
 HT W (w.setCell ⟨gt,1+k*2+1,none⟩ (.int .i64 (n:Int))) p g gt h { t with slots:=t.slots.set k ((t.at k).1,n) }:=by
 rw [Nat.mul_comm k 2]
 have h1:=T.write (1+2*k+1) (.int .i64 (n:Int))
 rw [cells_exp t g k n (by rw [T.ok.len]; exact hk)] at h1
 exact⟨h1.1,h1.2,O,T.new⟩
theorem HT.setNext (T:HT W w p g gt h t) (n:Nat) (O:({ t with next:=n }:TM).Ok):HT W (w.setCell ⟨gt,514,none⟩ (.int .u64 (n:Int))) p g gt h { t with next:=n }:=by
 have h1:=T.write 514 (.int .u64 (n:Int))
 rw [cells_next T.ok.len] at h1
 exact⟨h1.1,h1.2,O,T.new⟩
theorem HT.setNow (T:HT W w p g gt h t) (n:Nat) (O:({ t with now:=n }:TM).Ok):HT W (w.setCell ⟨gt,515,none⟩ (.int .i64 (n:Int))) p g gt h { t with now:=n }:=by
 have h1:=T.write 515 (.int .i64 (n:Int))
 rw [cells_now T.ok.len] at h1
 exact⟨h1.1,h1.2,O,T.new⟩
theorem HT.c0 (T:HT W w p g gt h t):w.cell? ⟨gt,0,none⟩=some (.pointer (some ⟨g,0,none⟩)):=by rw [T.tab.cell]; rfl
theorem HT.get (T:HT W w p g gt h t) {i:Nat} {v:Value} (hi:(t.cells g)[i]? = some v):w.cell? ⟨gt,i,none⟩=some v:=by rw [T.tab.cell,List.getElem?_toArray]; exact hi
theorem HT.cCap (T:HT W w p g gt h t):w.cell? ⟨gt,513,none⟩=some (.int .i64 (t.cap:Int)):=T.get (cells_tail T.ok.len g).1
theorem HT.cNext (T:HT W w p g gt h t):w.cell? ⟨gt,514,none⟩=some (.int .u64 (t.next:Int)):=T.get (cells_tail T.ok.len g).2.1
theorem HT.cNow (T:HT W w p g gt h t):w.cell? ⟨gt,515,none⟩=some (.int .i64 (t.now:Int)):=T.get (cells_tail T.ok.len g).2.2
theorem HT.cId (T:HT W w p g gt h t) {k:Nat} (hk:k<256):w.cell? ⟨gt,1+k*2,none⟩=some (.int .u64 ((t.at k).1:Int)):=by rw [Nat.mul_comm]; exact T.get (cells_slot T.ok.len g hk).1
theorem HT.cExp (T:HT W w p g gt h t) {k:Nat} (hk:k<256):w.cell? ⟨gt,1+k*2+1,none⟩=some (.int .i64 ((t.at k).2:Int)):=by rw [Nat.mul_comm]; exact T.get (cells_slot T.ok.len g hk).2
end
section
variable {W w:World} {p:HP} {g gt:Nat} {h:HM} {t:TM}
theorem HT.load (T:HT W w p g gt h t):(loadVar 94 ⟨gt,1,none⟩).run Tryz.prog w = .ok (.agg (slC t.slots).toArray) w:=by
 have hl:(slC t.slots).length=512:=by rw [slC_len,T.ok.len]
 have h1:(loadCells ⟨gt,1,none⟩ (slC t.slots).length).run Tryz.prog w = .ok (slC t.slots).toArray w:=run_loadCells_list (P:=Tryz.prog) w ⟨gt,1,none⟩ (slC t.slots) (fun j v hv=>by
  rw [Go.WideShapes.add_plain]
  refine T.get ?_
  have hj:j<(slC t.slots).length:=(List.getElem?_eq_some_iff.1 hv).1
  unfold TM.cells
  rw [show 1+j=j+1 by omega,List.getElem?_cons_succ,List.getElem?_append_left hj]
  exact hv)
 rw [hl] at h1
 have ha:(isAgg 94).run Tryz.prog w = .ok true w:=by kernel_rfl
 have hz:(sizeOf 94).run Tryz.prog w = .ok 512 w:=by kernel_rfl
 simp [loadVar,Sem.run_bind,ha,hz,h1]
theorem HT.loadAt (T:HT W w p g gt h t):(Instr.loadAt 94 (.pointer (some ⟨gt,1,none⟩))).run Tryz.prog w = .ok (.agg (slC t.slots).toArray) w:=by
 have:=T.load
 simp only [Instr.loadAt,Instr.sureAddr,Sem.run_bind,Sem.run_pure,Result.andThen_ok]
 exact this
theorem index_slot {l:List (Nat × Nat)} (hl:l.length=256) {k:Nat} (hk:k<256) (w:World):
 (Instr.index 94 (.agg (slC l).toArray) (.int .i64 (k:Int))).run Tryz.prog w = .ok (.agg #[.int .u64 ((l.getD k (0,0)).1:Int),.int .i64 ((l.getD k (0,0)).2:Int)]) w:=by
 have hu:Tryz.prog.underlying 94=some (.array 256 93):=Tryz.underlying94
 have ha:∀ w,(isAgg 93).run Tryz.prog w = .ok true w:=fun w=>by kernel_rfl
 have hz:∀ w,(sizeOf 93).run Tryz.prog w = .ok 2 w:=fun w=>by kernel_rfl
 have h1:(0:Int)≤(k:Int)∧(k:Int)<(256:Nat):=by omega
 have hg:=slC_get l k (by omega)
 have hll:(slC l).length=512:=by rw [slC_len,hl]
 have he:(slC l).toArray.extract (k*2) (k*2+2)=#[.int .u64 ((l.getD k (0,0)).1:Int),.int .i64 ((l.getD k (0,0)).2:Int)]:=by
  apply Array.ext'
  rw [Array.toList_extract]
  simp only [List.extract_eq_take_drop]
  rw [show k*2+2-k*2=2 by omega,Nat.mul_comm k 2]
  apply List.ext_getElem?
  intro j
  rw [List.getElem?_take]
  by_cases h0:j=0
  ·subst h0
   rw [if_pos (by omega),List.getElem?_drop,Nat.add_zero,hg.1]
   rfl
  ·by_cases h1:j=1
   ·subst h1
    rw [if_pos (by omega),List.getElem?_drop,hg.2]
    rfl
   ·rw [if_neg (by omega)]
    obtain⟨j',rfl⟩:=Nat.exists_eq_add_of_le (show 2≤j by omega)
    rw [show 2+j'=j'+1+1 by omega]
    rfl
 simp only [Instr.index,asIntOf,Sem.run_bind,run_underlying hu,part,ha,hz,Result.andThen_ok,Sem.run_pure,if_pos h1,Int.toNat_natCast]
 simp only [if_true,Sem.run_bind,hz,Result.andThen_ok,Sem.run_pure,he]
end
theorem oper_load {P:Program} {d:Nat} {t ty:TypeId} {x:Operand} {pos:String} {after:Array Edge} {a:Act} {w:World} {v:Value} {K:Act→World→Prop} {Q:Exit→Act→World→Prop}
 (hx:(Instr.loadAt t (a.eval x)).run P w = .ok v w) (hk:K (a.put (some d) v) w):Oper.wp P { dst:=some d,op:=.load t x,type:=ty,pos:=pos,after:=after,guard:=none } a w K Q:=by
 unfold Oper.wp
 have h:(execOp a.eval { dst:=some d,op:=.load t x,type:=ty,pos:=pos,after:=after,guard:=none }).run P w = .ok (.value v) w:=by
  simp only [execOp,Sem.run_bind,hx,Result.andThen_ok,Sem.run_pure]
 rw [h]
 exact hk
def HDone (W:World) (p:HP) (g gt:Nat) (h':HM) (t':TM) (v:Value) (w:World) (e:Ending) (w':World):Prop:=
 e = .returned v∧HT W w' p g gt h' t'∧HKeep p gt w w'
end
section
open Go.RowKit
attribute [local go_sem] Oper.semAt_some
theorem hroot_any {W w:World} {p:HP} {g:Nat} {h:HM} (L:Live W w p g h) (i:Int):Calls Tryz.prog 164 #[.pointer (some ⟨g,0,none⟩),.int .i64 i] w (Said (.int .u32 (h.rootN i:Nat)) w):=by
 have HR:=Lib.hid (L.root i)
 clear L
 go_enter Tryz.func164,Tryz.ntmps164
 go_wp2_with fail
 refine HR.out.mono ?_
 rintro e w' ⟨rfl,rfl⟩
 go_wp2_with fail
 go_ret
 exact⟨rfl,rfl⟩
theorem hlease_any (n:Int) (w:World):Calls Tryz.prog 86 #[.int .i64 n] w (Said (.bool (leaseB n)) w):=by
 by_cases h1:1≤n
 ·by_cases h2:n≤1000000
  ·have HF:=Lib.hid (show leaseB n=true by unfold leaseB; simp [h1,h2])
   go_enter Tryz.func86,Tryz.ntmps86
   go_wp2_with fail
   go_ret
   exact⟨by rw [HF.out]; simp [h1,h2],rfl⟩
  ·have HF:=Lib.hid (show leaseB n=false by unfold leaseB; simp [h2])
   go_enter Tryz.func86,Tryz.ntmps86
   go_wp2_with fail
   go_ret
   exact⟨by rw [HF.out]; simp [h1,h2],rfl⟩
 ·have HF:=Lib.hid (show leaseB n=false by unfold leaseB; simp [h1])
  go_enter Tryz.func86,Tryz.ntmps86
  go_wp2_with fail
  go_ret
  exact⟨by rw [HF.out]; simp [h1],rfl⟩
theorem arr_lt {h:HM} (f:h.Fit):h.arr<4294967296:=f.root 40
theorem nil_lt {h:HM} (f:h.Fit):h.roots.getD 0 0<4294967296:=f.root 0
theorem Live.put1 {W w:World} {p:HP} {g:Nat} {h:HM} (L:Live W w p g h) (o:Nat) (ho:o<4294967296) (i:Int) (v:Nat) (hv:v<4294967296):
 Calls Tryz.prog 105 #[.pointer (some ⟨g,0,none⟩),.int .u32 o,.int .i64 i,.int .u32 v] w (fun e w'=>e = .returned (.int .i64 (h.putE o i v:Nat))∧Live W w' p g (h.putH o i v)∧Step p p w w'):=by
 have hh:=put_any L.at_ L.fit L.heads L.envw.spares o ho i v hv
 rw [L.hg] at hh
 exact hh.mono fun _ _ H=>by
  obtain⟨rfl,H',s⟩:=H
  obtain⟨l,G⟩:=L.good
  obtain⟨l',G',_⟩:=G.putH o i v hv
  exact⟨rfl,L.step H' s ⟨l',G'⟩,s⟩
section
variable {W w:World} {p:HP} {g gt:Nat} {h:HM} {t:TM} (T:HT W w p g gt h t)
include T
theorem hobj_any (k:Nat) (hk:k≤9223372036854775807):Calls Tryz.prog 96 #[.pointer (some ⟨gt,0,none⟩),.int .i64 (k:Int)] w (Told (.int .u32 (h.objK k:Nat)) w):=by
 have c0:=T.drew.c0
 have HRT:=Lib.hid (hroot_any T.drew.live 40)
 have HGT:=Lib.hid (T.drew.live.get h.arr (arr_lt T.live.fit) (k:Int))
 have HTD:=Lib.hid T.drew
 clear T
 go_enter Tryz.func96,Tryz.ntmps96
 go_upto_region 1 with fail
 go_region_held3 (fun w'=>w'.cell? ⟨gt,0,none⟩=some (.pointer (some ⟨g,0,none⟩)))
  (first | exact c0 | exact c1 | go_keep)
  (first
    | (go_at_call 164; refine HRT.out.mono ?_; rintro e w1 ⟨rfl,rfl⟩)
    | (go_at_call 175; refine HGT.out.mono ?_; rintro e w2 ⟨rfl,hb2⟩; have HB2:=Lib.hid (below_top (below_drew (Below.refl _ w)) hb2); have c1:=(HTD.out.after hb2).c0; clear hb2))
 all_goals go_wp2_with fail
 all_goals go_ret
 all_goals exact⟨rfl,HB2.out⟩
theorem htput_any (k:Nat) (hk:k≤9223372036854775807) (o:Nat) (ho:o<4294967296):Calls Tryz.prog 88 #[.pointer (some ⟨gt,0,none⟩),.int .i64 (k:Int),.int .u32 (o:Nat)] w (HDone W p g gt (h.putH h.arr k o) t (.tuple #[]) w):=by
 have c0:=T.drew.c0
 have HRT:=Lib.hid (hroot_any T.drew.live 40)
 have HPT:=Lib.hid (T.drew.live.put1 h.arr (arr_lt T.live.fit) (k:Int) o ho)
 have HTD:=Lib.hid T.drew
 clear T
 go_enter Tryz.func88,Tryz.ntmps88
 go_upto_region 0 with fail
 go_region_held3 (fun w'=>w'.cell? ⟨gt,0,none⟩=some (.pointer (some ⟨g,0,none⟩)))
  (first | exact c0 | exact c1 | go_keep)
  (first
    | (go_at_call 164; refine HRT.out.mono ?_; rintro e w1 ⟨rfl,rfl⟩)
    | (go_at_call 105; refine HPT.out.mono ?_; rintro e w2 ⟨rfl,L2,s2⟩; have HT2:=Lib.hid (HTD.out.heap L2 s2); have HK2:=Lib.hid ((HKeep.refl p gt w).drew.trans (HKeep.of_step s2)); have c1:=HT2.out.c0; clear L2 s2))
 all_goals go_wp2_with fail
 all_goals go_end0
 all_goals exact⟨rfl,HT2.out,HK2.out⟩
set_option maxHeartbeats 1000000 in
theorem tclear_any (k:Nat) (hk:k<256):Calls Tryz.prog 89 #[.pointer (some ⟨gt,0,none⟩),.int .i64 (k:Int)] w (HDone W p g gt (h.clrK k) (t.clear k) (.tuple #[]) w):=by
 have O2:=T.ok.clear hk
 have T2:=T.slot hk (0,0) O2
 have K2:HKeep p gt w _:=((HKeep.refl p gt w).setCell (1+k*2) (.int .u64 (0:Nat))).setCell (1+k*2+1) (.int .i64 (0:Nat))
 have e1:=T.cId hk
 have e2:=T.cExp hk
 have f0:=T.tab.fz
 have hlt:(k:Int)<256:=by omega
 have c1:=T2.c0
 have HRT:=Lib.hid (hroot_any T2.live 0)
 have HPT:=Lib.hid (htput_any T2 k (by omega) (h.roots.getD 0 0) (nil_lt T.live.fit))
 have HK2:=Lib.hid K2
 clear T T2 O2 K2
 simp only [Int.natCast_zero] at c1 HRT HPT HK2
 go_enter Tryz.func89,Tryz.ntmps89
 go_wp2_with fail
 refine HRT.out.mono ?_
 rintro e w1 ⟨rfl,rfl⟩
 go_wp2_with fail
 refine HPT.out.mono ?_
 rintro e w2 ⟨rfl,T3,K3⟩
 have HT3:=Lib.hid T3
 have HK3:=Lib.hid (HK2.out.trans K3)
 clear T3 K3
 go_wp2_with fail
 go_end0
 exact⟨rfl,HT3.out,HK3.out⟩
end
section
variable {W w:World} {p:HP} {g gt:Nat} {h:HM} {t:TM} (T:HT W w p g gt h t)
include T
theorem tmade_any:Calls Tryz.prog 99 #[.pointer (some ⟨gt,0,none⟩)] w (Said (.bool true) w):=by
 have c:=T.cCap
 have h1:=T.ok.lo
 have hz:decide ((t.cap:Int)>0)=true:=by simp; omega
 have hz2:decide (0<(t.cap:Int))=true:=by simp; omega
 clear T
 go_enter Tryz.func99,Tryz.ntmps99
 go_wp2_with fail
 go_ret
 exact⟨by simp; omega,rfl⟩
theorem tnow_any:Calls Tryz.prog 34 #[.pointer (some ⟨gt,0,none⟩)] w (Said (.int .i64 (t.now:Nat)) w):=by
 have c:=T.cNow
 have HM:=Lib.hid (tmade_any T)
 clear T
 go_enter Tryz.func34,Tryz.ntmps34
 go_wp2_with fail
 refine HM.out.mono ?_
 rintro e w1 ⟨rfl,rfl⟩
 go_wp2_with fail
 go_ret
 exact⟨rfl,rfl⟩
theorem tnext_any:Calls Tryz.prog 36 #[.pointer (some ⟨gt,0,none⟩)] w (Said (.int .u64 (t.next:Nat)) w):=by
 have c:=T.cNext
 have HM:=Lib.hid (tmade_any T)
 clear T
 go_enter Tryz.func36,Tryz.ntmps36
 go_wp2_with fail
 refine HM.out.mono ?_
 rintro e w1 ⟨rfl,rfl⟩
 go_wp2_with fail
 go_ret
 exact⟨rfl,rfl⟩
theorem tcap_any:Calls Tryz.prog 41 #[.pointer (some ⟨gt,0,none⟩)] w (Said (.int .i64 (t.cap:Nat)) w):=by
 have c:=T.cCap
 have HM:=Lib.hid (tmade_any T)
 clear T
 go_enter Tryz.func41,Tryz.ntmps41
 go_wp2_with fail
 refine HM.out.mono ?_
 rintro e w1 ⟨rfl,rfl⟩
 go_wp2_with fail
 go_ret
 exact⟨rfl,rfl⟩
end
end
section
open Go.RowKit
attribute [local go_sem] Oper.semAt_some
theorem HT.hdr {W w:World} {p:HP} {g gt:Nat} {h:HM} {t:TM} (T:HT W w p g gt h t):Calls Tryz.prog 32 #[.pointer (some ⟨g,0,none⟩),.int .u32 (h.arr:Nat)] w (Told (.tuple #[.agg #[.int .i64 (h.hdO h.arr).size,.int .i64 (h.hdO h.arr).fmt,.int .i64 (h.hdO h.arr).spare,.int .u32 (h.hdO h.arr).cls,.int .u32 (h.hdO h.arr).ser],.int .i64 (h.isE h.arr:Nat)]) w):=T.live.header h.arr (arr_lt T.live.fit)
theorem HT.hroot {W w:World} {p:HP} {g gt:Nat} {h:HM} {t:TM} (T:HT W w p g gt h t):Calls Tryz.prog 164 #[.pointer (some ⟨g,0,none⟩),.int .i64 40] w (Said (.int .u32 (h.arr:Nat)) w):=hroot_any T.live 40
theorem HT.hdr1 {W w0 w:World} {p:HP} {g gt:Nat} {h:HM} {t:TM} (T:HT W w p g gt h t) (hb:Below w0.heap.size w0 w):
 Calls Tryz.prog 32 #[.pointer (some ⟨g,0,none⟩),.int .u32 (h.arr:Nat)] w fun e w2=>e = .returned (.tuple #[.agg #[.int .i64 (h.hdO h.arr).size,.int .i64 (h.hdO h.arr).fmt,.int .i64 (h.hdO h.arr).spare,.int .u32 (h.hdO h.arr).cls,.int .u32 (h.hdO h.arr).ser],.int .i64 (h.isE h.arr:Nat)])∧Hid (HT W w2 p g gt h t)∧Hid (Below w0.heap.size w0 w2)∧w2.cell? ⟨gt,0,none⟩=some (.pointer (some ⟨g,0,none⟩)):=
 T.hdr.mono fun e w2 hh=>⟨hh.1,Lib.hid (T.after hh.2),Lib.hid (below_top hb hh.2),(T.after hh.2).c0⟩
theorem HT.hdr2 {W w0 w:World} {p:HP} {g gt:Nat} {h:HM} {t:TM} (T:HT W w p g gt h t) (hb:Below w0.heap.size w0 w) {B:Nat} {a0 a1 a2 a3 a4:Value} (X:Blk w B 75 #[a0,a1,a2,a3,a4]):
 Calls Tryz.prog 32 #[.pointer (some ⟨g,0,none⟩),.int .u32 (h.arr:Nat)] w fun e w2=>e = .returned (.tuple #[.agg #[.int .i64 (h.hdO h.arr).size,.int .i64 (h.hdO h.arr).fmt,.int .i64 (h.hdO h.arr).spare,.int .u32 (h.hdO h.arr).cls,.int .u32 (h.hdO h.arr).ser],.int .i64 (h.isE h.arr:Nat)])∧Hid (HT W w2 p g gt h t)∧Hid (Below w0.heap.size w0 w2)∧w2.cell? ⟨gt,0,none⟩=some (.pointer (some ⟨g,0,none⟩))∧Hid (Blk w2 B 75 #[a0,a1,a2,a3,a4])∧w2.cell? ⟨B,0,none⟩=some a0∧w2.cell? ⟨B,1,none⟩=some a1∧w2.cell? ⟨B,2,none⟩=some a2∧w2.cell? ⟨B,3,none⟩=some a3∧w2.cell? ⟨B,4,none⟩=some a4∧∀ i,w2.frozen? ⟨B,i,none⟩=false:=
 T.hdr.mono fun e w2 hh=>by
  have X2:=X.below hh.2 X.lt
  obtain⟨g0,g1,g2,g3,g4⟩:=X2.cells5
  exact⟨hh.1,Lib.hid (T.after hh.2),Lib.hid (below_top hb hh.2),(T.after hh.2).c0,Lib.hid X2,g0,g1,g2,g3,g4,X2.fz⟩
theorem obj_lt {h:HM} (f:h.Fit) (k:Nat):h.objK k<4294967296:=by
 unfold HM.objK HM.readN
 split
 ·exact f.w _
 ·omega
theorem HT.obj1 {W w0 w:World} {p:HP} {g gt:Nat} {h:HM} {t:TM} (T:HT W w p g gt h t) (hb:Below w0.heap.size w0 w) {B:Nat} {a0 a1:Value} (x0:w.cell? ⟨B,0,none⟩=some a0) (x1:w.cell? ⟨B,1,none⟩=some a1) (k:Nat) (hk:k≤9223372036854775807):
 Calls Tryz.prog 96 #[.pointer (some ⟨gt,0,none⟩),.int .i64 (k:Int)] w fun e w2=>e = .returned (.int .u32 (h.objK k:Nat))∧Hid (HT W w2 p g gt h t)∧Hid (Below w0.heap.size w0 w2)∧w2.cell? ⟨gt,0,none⟩=some (.pointer (some ⟨g,0,none⟩))∧w2.cell? ⟨B,0,none⟩=some a0∧w2.cell? ⟨B,1,none⟩=some a1∧Hid (Calls Tryz.prog 85 #[.pointer (some ⟨g,0,none⟩),.int .u32 (h.objK k:Nat)] w2 fun e w3=>e = .returned (.bool (h.isB (h.objK k)))∧w2=w3):=
 (hobj_any T k hk).mono fun e w2 hh=>⟨hh.1,Lib.hid (T.after hh.2),Lib.hid (below_top hb hh.2),(T.after hh.2).c0,(hh.2.cell (World.block_lt_of_cell? _ _ x0)).trans x0,(hh.2.cell (World.block_lt_of_cell? _ _ x1)).trans x1,Lib.hid ((T.after hh.2).live.is (h.objK k) (obj_lt T.live.fit k))⟩
theorem badA_eq (h:HM) (cap:Nat):h.badA cap=(decide (h.isE h.arr≠0) || decide ((h.hdO h.arr).fmt≠1) || decide ((h.hdO h.arr).size<cap)):=by
 unfold HM.badA HM.isE HM.hdO
 cases h.isB h.arr
 ·simp
 ·simp
  by_cases h1:(h.hd (h.arr / 2)).fmt=1
  ·by_cases h2:cap≤(h.hd (h.arr / 2)).size
   ·simp [h1,h2,Nat.not_lt.2 h2]
   ·simp [h1,h2,Nat.lt_of_not_le h2]
  ·simp [h1]
section
variable {W w:World} {p:HP} {g gt:Nat} {h:HM} {t:TM} (T:HT W w p g gt h t)
include T
set_option maxRecDepth 100000 in
set_option maxHeartbeats 4000000 in
theorem tbroken_any:Calls Tryz.prog 84 #[.pointer (some ⟨gt,0,none⟩)] w (Told (.bool (brkB h t)) w):=by
 have hlo:=T.ok.lo
 have hhi:=T.ok.hi
 have hz:((t.cap:Int) == 0)=false:=by simp; omega
 have c5:=T.cCap
 have c0:=T.drew.c0
 have hba:=(Below.refl w.heap.size w).alloc (Nat.le_refl _) (.cells #[.int .i64 0,.int .i64 0,.int .i64 0,.int .u32 0,.int .u32 0] 75)
 have TA:=(T.after hba).drew
 have a0:=TA.c0
 have HRT:=Lib.hid (T.drew.hroot)
 have HHD:=Lib.hid (T.drew.hdr1 (below_drew (Below.refl _ w)))
 have HRA:=Lib.hid (TA.hroot)
 have HHA:=Lib.hid (TA.hdr2 hba.drew (Blk.new w 75 #[.int .i64 0,.int .i64 0,.int .i64 0,.int .u32 0,.int .u32 0]).drew)
 have HTD:=Lib.hid T.drew
 have HTA:=Lib.hid TA
 have HAB:=Lib.hid hba
 have HBN:=Lib.hid (Blk.new w 75 #[.int .i64 0,.int .i64 0,.int .i64 0,.int .u32 0,.int .u32 0]).drew
 have HB:=Lib.hid (show brkB h t=(h.badA t.cap || (List.range 256).any (lostK h t)) from rfl)
 have HBA:=Lib.hid (badA_eq h t.cap)
 have hE:h.isE h.arr=0∨h.isE h.arr=3:=by unfold HM.isE; split <;> simp
 have hne:w.heap.size≠gt:=fun e=>by have:=T.tab.lt; omega
 have hne2:gt≠w.heap.size:=fun e=>hne e.symm
 have HNP:=Lib.hid (show ∀ k,p.has k∨k=gt→k≠w.heap.size from fun k hk e=>by
  rcases hk with hk | hk
  ·have:=T.live.at_.lt hk; omega
  ·have:=T.tab.lt; omega)
 have HWL:=Lib.hid T.live.below.size
 clear T TA hba
 generalize (h.hdO h.arr).size=z at *
 generalize (h.hdO h.arr).fmt=f at *
 generalize (h.hdO h.arr).spare=s at *
 generalize (h.hdO h.arr).cls=c at *
 generalize (h.hdO h.arr).ser=r at *
 generalize h.isE h.arr=E at *
 go_enter Tryz.func84,Tryz.ntmps84
 go_upto_region 3 with fail
 go_cut [3,4] from 16 to 28 (fun s3 s4 wx=>∃ b3,s3 = .pointer (some ⟨b3,0,none⟩)∧s4 = .int .i64 (E:Nat)∧HT W wx p g gt h t∧Below w.heap.size w wx∧Blk wx b3 75 #[.int .i64 z,.int .i64 f,.int .i64 s,.int .u32 c,.int .u32 r])
 case first=>
  go_region_held3 (fun w'=>w'.cell? ⟨gt,0,none⟩=some (.pointer (some ⟨g,0,none⟩)))
   (first | with_reducible exact c0 | with_reducible exact a0 | with_reducible exact c1 | go_keep)
   (first
     | (go_at_call 164; (with_reducible refine HRT.out.mono ?_); rintro e w1 ⟨rfl,rfl⟩)
     | (go_at_call 164; (with_reducible refine HRA.out.mono ?_); rintro e w1 ⟨rfl,rfl⟩)
     | (go_at_call 32; (with_reducible refine HHD.out.mono ?_); rintro e w2 ⟨rfl,HT2,HB2,c1⟩)
     | (go_at_call 32; (with_reducible refine HHA.out.mono ?_); rintro e w2 ⟨rfl,HT2,HB2,c1,HBX,g0,g1,g2,g3,g4,hgz⟩))
  all_goals go_wp2_with fail
  all_goals go_meet
  all_goals refine⟨_,rfl,rfl,?_⟩
  all_goals first
   | (with_reducible refine And.intro (HT2.out.after ((Below.refl _ _).alloc (Nat.le_refl _) _)) (And.intro (HB2.out.alloc HB2.out.size _) (Blk.new _ _ _)))
   | (with_reducible refine And.intro (HT2.out.same (fun k hk=>heap_set5 _ _ _ _ _ _ _ k (HNP.out k hk)) (below_five HT2.out.live.below HWL.out)) (And.intro (below_five HB2.out (Nat.le_refl _)) (HBX.out.setAll5 _ _ _ _ _)))
 case rest =>
  obtain⟨b3,rfl,rfl,T3,hb3,B3⟩:=hcut
  obtain⟨b0,b1,b2,b3',b4⟩:=B3.cells5
  have c5:=T3.cCap
  have HT3:=Lib.hid T3
  have HB3:=Lib.hid hb3
  clear HRT HHD HRA HHA HTD HTA HAB HBN T3 hb3 B3 c0 a0 hne hne2
  go_upto_region 4 with fail
  rcases hE with rfl | rfl
  ·by_cases hf:f=1
   ·by_cases hzc:z<t.cap
    ·have HV:=Lib.hid (show brkB h t=true by rw [HB.out,HBA.out,decide_eq_true hzc]; simp only [Bool.or_true,Bool.true_or])
     have hd1:decide ((z:Int)<(t.cap:Int))=true:=by simp; omega
     subst hf
     clear HB HBA
     go_quiet (fail)
     go_wp2_with fail
     go_ret
     exact⟨by rw [HV.out]; rfl,below_drewN HB3.out _⟩
    ·have HV:=Lib.hid (show brkB h t=(List.range 256).any (lostK h t) by rw [HB.out,HBA.out,decide_eq_false hzc,decide_eq_false (not_not_intro hf),decide_eq_false (not_not_intro rfl)]; simp only [Bool.false_or])
     have hd1:decide ((z:Int)<(t.cap:Int))=false:=by simp; omega
     subst hf
     clear HB HBA
     go_quiet (fail)
     have T4:=HT3.out.after (below_drewN (Below.refl _ wc) nq)
     have hld:=T4.loadAt
     have HIX:=Lib.hid (fun (k:Nat) (hk:k<256) (w:World)=>index_slot T4.ok.len hk w)
     have HT4:=Lib.hid T4
     have HB4:=Lib.hid (below_drewN HB3.out nq)
     clear T4 HT3 HB3 b0 b1 b2 b3' b4 c5
     generalize Value.agg (slC t.slots).toArray=vs at hld HIX
     generalize wc.drewN nq=w4 at *
     go_wp2_with fail
     refine oper_load (v:=vs) hld ?_
     go_wp2_with fail
     go_loopw [49] (fun i wr=>∃ k:Nat,k≤256∧i = .int .i64 (k:Int)∧Hid (HT W wr p g gt h t)∧Hid (Below w.heap.size w wr)∧Hid (∀ j,j<k→lostK h t j=false)) (fun i _=>256-(intOf i).toNat)
     case atStart=>exact⟨0,by omega,rfl,HT4,HB4,Lib.hid (fun j hj=>absurd hj (Nat.not_lt_zero _))⟩
     case round=>
      clear HT4 HB4
      obtain⟨k,hk,rfl,HTr,HBr,HLr⟩:=hrel
      by_cases hlt:k<256
      ·have hi:=HIX.out k hlt wr
       have HLK:=Lib.hid (show lostK h t k=(usedB (t.slots.getD k (0,0)) && !h.isB (h.objK k)) from rfl)
       have HUS:=Lib.hid (show t.slots.getD k (0,0)≠(0,0)→¬ (t.slots.getD k (0,0)).1=0 from fun hu e=>by have:=(HTr.out.ok.used k hu).1; have e:(t.at k).1=0:=e; omega)
       generalize t.slots.getD k (0,0)=s at hi HLK HUS
       clear HIX
       rcases s with ⟨a,b⟩
       have hlt2:(k:Int)<256:=by omega
       by_cases hu:((a,b):Nat × Nat)=(0,0)
       ·obtain⟨rfl,rfl⟩ :a=0∧b=0:=by simpa using hu
        have HL:=Lib.hid (show lostK h t k=false by rw [HLK.out]; rfl)
        have hbx:=(Below.refl wr.heap.size wr).alloc (Nat.le_refl _) (.cells #[.int .u64 0,.int .i64 0] 93)
        have x0:(wr.alloc (.cells #[.int .u64 0,.int .i64 0] 93)).cell? ⟨wr.heap.size,0,none⟩=some (.int .u64 0):=(Blk.new wr 93 #[.int .u64 0,.int .i64 0]).cell 0
        have x1:(wr.alloc (.cells #[.int .u64 0,.int .i64 0] 93)).cell? ⟨wr.heap.size,1,none⟩=some (.int .i64 0):=(Blk.new wr 93 #[.int .u64 0,.int .i64 0]).cell 1
        have HT5:=Lib.hid (HTr.out.after hbx)
        have HB5:=Lib.hid (below_top HBr.out hbx)
        simp only [Int.natCast_zero] at hi
        clear hbx
        go_upto_region 9 with fail
        generalize wr.alloc (.cells #[.int .u64 0,.int .i64 0] 93)=w5 at *
        go_quiet (fail)
        go_wp2_with fail
        go_roundw
        case rel=>exact⟨k+1,by omega,by go_num,Lib.hid (HT5.out.after (below_drewN (Below.refl _ w5) _)),Lib.hid (below_drewN HB5.out _),Lib.hid (fun j hj=>by
         rcases Nat.lt_or_ge j k with h | h
         ·exact HLr.out j h
         ·rw [show j=k by omega]; exact HL.out)⟩
        case measure=>simp [intOf]; omega
       ·have hl1:lostK h t k = !h.isB (h.objK k):=by rw [HLK.out,(usedB_iff (a,b)).2 hu]; rfl
        have HL:=Lib.hid hl1
        have ha0:¬ a=0:=HUS.out hu
        have ha1:((a:Int) == 0)=false:=by simpa using ha0
        have hbx:=(Below.refl wr.heap.size wr).alloc (Nat.le_refl _) (.cells #[.int .u64 (a:Int),.int .i64 (b:Int)] 93)
        have x0:(wr.alloc (.cells #[.int .u64 (a:Int),.int .i64 (b:Int)] 93)).cell? ⟨wr.heap.size,0,none⟩=some (.int .u64 (a:Int)):=(Blk.new wr 93 #[.int .u64 (a:Int),.int .i64 (b:Int)]).cell 0
        have x1:(wr.alloc (.cells #[.int .u64 (a:Int),.int .i64 (b:Int)] 93)).cell? ⟨wr.heap.size,1,none⟩=some (.int .i64 (b:Int)):=(Blk.new wr 93 #[.int .u64 (a:Int),.int .i64 (b:Int)]).cell 1
        have T5:=HTr.out.after hbx
        have HB5:=Lib.hid (below_top HBr.out hbx)
        clear hbx hl1 HLK
        go_upto_region 9 with fail
        generalize wr.alloc (.cells #[.int .u64 (a:Int),.int .i64 (b:Int)] 93)=w5 at *
        have HT5:=Lib.hid T5.drew
        have d0:=T5.drew.c0
        have HOB:=Lib.hid (T5.drew.obj1 (w0:=w) (below_drew HB5.out) (B:=wr.heap.size) x0 x1 k (by omega))
        clear T5
        go_region_held3 (fun w'=>w'.cell? ⟨gt,0,none⟩=some (.pointer (some ⟨g,0,none⟩))∧w'.cell? ⟨wr.heap.size,0,none⟩=some (.int .u64 (a:Int))∧w'.cell? ⟨wr.heap.size,1,none⟩=some (.int .i64 (b:Int)))
         (first | exact⟨d0,x0,x1⟩ | exact⟨c1,y0,y1⟩ | go_keep)
         (first
           | (go_at_call 96; (with_reducible refine HOB.out.mono ?_); rintro e w2 ⟨rfl,HT2,HB2,c1,y0,y1,HI2⟩)
           | (go_at_call 85; (with_reducible refine HI2.out.mono ?_); rintro e w3 ⟨rfl,rfl⟩))
        generalize h.isB (h.objK k)=bb at *
        cases bb
        ·have HBR:=Lib.hid (show brkB h t=true by
          rw [HV.out,List.any_eq_true]
          exact⟨k,List.mem_range.2 hlt,HL.out⟩)
         go_wp2_with fail
         go_ret
         exact⟨by rw [HBR.out]; rfl,HB2.out⟩
        ·go_wp2_with fail
         go_roundw
         case rel=>exact⟨k+1,by omega,by go_num,HT2,HB2,Lib.hid (fun j hj=>by
          rcases Nat.lt_or_ge j k with h | h
          ·exact HLr.out j h
          ·rw [show j=k by omega]; exact HL.out)⟩
         case measure=>simp [intOf]; omega
      ·obtain rfl:k=256:=by omega
       have HBR:=Lib.hid (show brkB h t=false by
        rw [HV.out,List.any_eq_false]
        exact fun x hx=>by rw [HLr.out x (List.mem_range.1 hx)]; simp)
       go_wp2_with fail
       go_ret
       exact⟨by rw [HBR.out]; rfl,HBr.out⟩
   ·have HV:=Lib.hid (show brkB h t=true by rw [HB.out,HBA.out,decide_eq_true hf]; simp only [Bool.or_true,Bool.true_or])
    have hd1:((f:Int) != 1)=true:=by simp; omega
    clear HB HBA
    go_quiet (fail)
    go_wp2_with fail
    go_ret
    exact⟨by rw [HV.out]; rfl,below_drewN HB3.out _⟩
  ·have HV:=Lib.hid (show brkB h t=true by rw [HB.out,HBA.out,decide_eq_true (show (3:Nat)≠0 by decide)]; simp only [Bool.true_or])
   clear HB HBA
   go_quiet (fail)
   go_wp2_with fail
   go_ret
   exact⟨by rw [HV.out]; rfl,below_drewN HB3.out _⟩
end
end
section
open Go.RowKit
attribute [local go_sem] Oper.semAt_some
def TM.findI (t:TM) (id:Nat):Int:=if t.find id<256 then (t.find id:Int) else -1
def TM.freeI (t:TM):Int:=if t.free<t.cap then (t.free:Int) else -1
section
variable {t:TM}
theorem find_at (hl:t.slots.length=256) {id k:Nat} (hk:k<256) (h1:(t.at k).1=id) (h2:∀ j,j<k→(t.at j).1≠id):t.find id=k:=by
 refine (List.findIdx_eq (show k<t.slots.length by omega)).2 ⟨?_,fun j hj=>?_⟩
 ·rw [TM.at_get (by omega)] at h1
  exact beq_iff_eq.2 h1
 ·have:=h2 j hj
  rw [TM.at_get (by omega)] at this
  exact beq_eq_false_iff_ne.2 this
theorem find_none (hl:t.slots.length=256) {id:Nat} (h2:∀ j,j<256→(t.at j).1≠id):¬ t.find id<256:=by
 intro hf
 have hl':t.find id<t.slots.length:=by omega
 have h1:=List.findIdx_getElem (xs:=t.slots) (p:=fun s:Nat × Nat=>s.1 == id) (w:=hl')
 have h3:=h2 (t.find id) hf
 rw [TM.at_get hl'] at h3
 exact h3 (eq_of_beq h1)
theorem take_at (O:t.Ok) {k:Nat} (hk:k<t.cap):(t.slots.take t.cap)[k]'(by rw [List.length_take,O.len]; have:=O.hi; omega)=t.at k:=by
 have:=O.len
 have:=O.hi
 rw [List.getElem_take,TM.at_get (by omega)]
theorem free_at (O:t.Ok) {k:Nat} (hk:k<t.cap) (h1:t.at k=(0,0)) (h2:∀ j,j<k→t.at j≠(0,0)):t.free=k:=by
 have hl:k<(t.slots.take t.cap).length:=by rw [List.length_take,O.len]; have:=O.hi; omega
 refine (List.findIdx_eq hl).2 ⟨?_,fun j hj=>?_⟩
 ·rw [take_at O hk]; exact decide_eq_true h1
 ·rw [take_at O (by omega)]; exact decide_eq_false (h2 j hj)
theorem free_none (O:t.Ok) (h2:∀ j,j<t.cap→t.at j≠(0,0)):¬ t.free<t.cap:=by
 intro hf
 exact h2 t.free hf (TM.free_lt O hf)
end
section
variable {W w:World} {p:HP} {g gt:Nat} {h:HM} {t:TM} (T:HT W w p g gt h t)
include T
theorem place1_any {B id:Nat} (hB:w.cell? ⟨B,0,none⟩=some (.int .u64 (id:Int))) (a b:Nat):Calls Tryz.prog 224 #[.agg #[.int .u64 (a:Int),.int .i64 (b:Int)],.pointer (some ⟨B,0,none⟩)] w (Told (.bool (decide (a=id))) w):=by
 have hlt:=World.block_lt_of_cell? _ _ hB
 clear T
 have hb:=(Below.refl w.heap.size w).alloc (Nat.le_refl _) (.cells #[.int .u64 (a:Int),.int .i64 (b:Int)] 93)
 have hne:B≠w.heap.size:=by simp only at hlt; omega
 have hB2:(w.alloc (.cells #[.int .u64 (a:Int),.int .i64 (b:Int)] 93)).cell? ⟨B,0,none⟩=some (.int .u64 (id:Int)):=(hb.cell (p:=⟨B,0,none⟩) hlt).trans hB
 have HB:=Lib.hid hb
 clear hb
 by_cases he:a=id
 ·subst he
  go_enter Tryz.func224,Tryz.ntmps224
  go_wp2_with fail
  go_ret
  exact⟨by simp,HB.out⟩
 ·have he2:((a:Int) == (id:Int))=false:=beq_eq_false_iff_ne.2 (by omega)
  go_enter Tryz.func224,Tryz.ntmps224
  go_wp2_with fail
  go_ret
  exact⟨by simp [he],HB.out⟩
set_option maxRecDepth 100000 in
set_option maxHeartbeats 2000000 in
theorem tindexFunc_any {B id:Nat} (hB:w.cell? ⟨B,0,none⟩=some (.int .u64 (id:Int))):
 Calls Tryz.prog 223 #[.slice (some ⟨gt,1,none⟩) 256 256,.func (.func 224) #[] #[.pointer (some ⟨B,0,none⟩)]] w (Told (.int .i64 (t.findI id)) w):=by
 have HT0:=Lib.hid T
 have HB0:=Lib.hid hB
 have hlt:=Lib.hid (World.block_lt_of_cell? _ _ hB)
 clear T hB
 go_enter Tryz.func223,Tryz.ntmps223
 go_wp2_with fail
 go_loopw [8] (fun i wr=>∃ k:Nat,k≤256∧i = .int .i64 (k:Int)∧Hid (Below w.heap.size w wr)∧Hid (∀ j,j<k→(t.at j).1≠id)) (fun i _=>256-(intOf i).toNat)
 case atStart=>exact⟨0,by omega,rfl,Lib.hid (Below.refl _ _),Lib.hid (fun j hj=>absurd hj (Nat.not_lt_zero _))⟩
 case round=>
  obtain⟨k,hk,rfl,HBr,HNr⟩:=hrel
  by_cases hlt2:k<256
  ·have T1:=HT0.out.after HBr.out
   have x0:=T1.cId hlt2
   have x1:=T1.cExp hlt2
   have hlt3:(k:Int)<256:=by omega
   have HP:=Lib.hid (place1_any T1 (B:=B) (id:=id) ((HBr.out.cell (p:=⟨B,0,none⟩) hlt.out).trans HB0.out) (t.at k).1 (t.at k).2)
   have HEQ:=Lib.hid (show ∀ hh:(t.at k).1=id,t.findI id=(k:Int) from fun hh=>by
    unfold TM.findI
    rw [find_at HT0.out.ok.len hlt2 hh HNr.out,if_pos hlt2])
   have HNE:=Lib.hid (show (t.at k).1≠id→∀ j,j<k+1→(t.at j).1≠id from fun hh j hj=>by
    rcases Nat.lt_or_ge j k with h | h
    ·exact HNr.out j h
    ·rw [show j=k by omega]; exact hh)
   clear T1
   generalize (t.at k).1=a at x0 HP HEQ HNE
   generalize (t.at k).2=b at x1 HP
   go_wp2_with fail
   refine HP.out.mono ?_
   rintro e w2 ⟨rfl,hb2⟩
   have HB2:=Lib.hid (below_top HBr.out hb2)
   clear hb2 x0 x1 HP
   by_cases he:a=id
   ·have hf:=HEQ.out he
    rw [decide_eq_true he]
    have HF:=Lib.hid hf
    clear hf
    go_wp2_with fail
    go_ret
    exact⟨by rw [HF.out]; rfl,HB2.out⟩
   ·rw [decide_eq_false he]
    go_wp2_with fail
    go_roundw
    case rel=>exact⟨k+1,by omega,by go_num,HB2,Lib.hid (HNE.out he)⟩
    case measure=>simp [intOf]; omega
  ·obtain rfl:k=256:=by omega
   have HF:=Lib.hid (show t.findI id = -1 by unfold TM.findI; rw [if_neg (find_none HT0.out.ok.len HNr.out)])
   go_wp2_with fail
   go_ret
   exact⟨by rw [HF.out]; rfl,HBr.out⟩
set_option maxRecDepth 100000 in
set_option maxHeartbeats 2000000 in
theorem tindex_any:Calls Tryz.prog 87 #[.slice (some ⟨gt,1,none⟩) t.cap 256,.agg #[.int .u64 0,.int .i64 0]] w (Told (.int .i64 t.freeI) w):=by
 have HT0:=Lib.hid T
 have hlo:=T.ok.lo
 have hhi:=T.ok.hi
 have hb0:=(Below.refl w.heap.size w).alloc (Nat.le_refl _) (.cells #[.int .u64 0,.int .i64 0] 93)
 have HB0:=Lib.hid hb0
 have X:=Lib.hid (Blk.new w 93 #[.int .u64 0,.int .i64 0])
 clear T hb0
 go_enter Tryz.func87,Tryz.ntmps87
 go_wp2_with fail
 generalize w.alloc (.cells #[.int .u64 0,.int .i64 0] 93)=w1 at *
 go_loopw [8] (fun i wr=>∃ k:Nat,k≤t.cap∧i = .int .i64 (k:Int)∧Hid (Below w1.heap.size w1 wr)∧Hid (∀ j,j<k→t.at j≠(0,0))) (fun i _=>t.cap-(intOf i).toNat)
 case atStart=>exact⟨0,by omega,rfl,Lib.hid (Below.refl _ _),Lib.hid (fun j hj=>absurd hj (Nat.not_lt_zero _))⟩
 case round=>
  obtain⟨k,hk,rfl,HBr,HNr⟩:=hrel
  by_cases hlt:k<t.cap
  ·have T1:=HT0.out.after (HB0.out.trans (HBr.out.mono HB0.out.size))
   have x0:=T1.cId (show k<256 by omega)
   have x1:=T1.cExp (show k<256 by omega)
   have y0:wr.cell? ⟨w.heap.size,0,none⟩=some (.int .u64 0):=(X.out.below HBr.out X.out.lt).cell 0
   have y1:wr.cell? ⟨w.heap.size,1,none⟩=some (.int .i64 0):=(X.out.below HBr.out X.out.lt).cell 1
   have hlt3:(k:Int)<(t.cap:Int):=by omega
   by_cases hu:t.at k=(0,0)
   ·have HF:=Lib.hid (show t.freeI=(k:Int) by unfold TM.freeI; rw [free_at HT0.out.ok hlt hu HNr.out,if_pos hlt])
    rw [hu] at x0 x1
    simp only [Int.natCast_zero] at x0 x1
    have HBW:=Lib.hid (HB0.out.trans (HBr.out.mono HB0.out.size))
    clear T1 hu
    go_wp2_with fail
    go_quiet (fail)
    go_wp2_with fail
    go_ret
    exact⟨by rw [HF.out]; rfl,below_drewN HBW.out _⟩
   ·have ha0:¬ (t.at k).1=0:=by have:=(HT0.out.ok.used k hu).1; omega
    have ha1:(((t.at k).1:Int) == 0)=false:=by simpa using ha0
    have ha2:((0:Int) == ((t.at k).1:Int))=false:=by simp; omega
    have ha3:¬ 0=(t.at k).1:=fun e=>ha0 e.symm
    have HNE:=Lib.hid (show ∀ j,j<k+1→t.at j≠(0,0) from fun j hj=>by
     rcases Nat.lt_or_ge j k with h | h
     ·exact HNr.out j h
     ·rw [show j=k by omega]; exact hu)
    clear T1 hu
    generalize (t.at k).1=a at *
    generalize (t.at k).2=b at *
    go_wp2_with fail
    go_quiet (fail)
    go_wp2_with fail
    go_roundw
    case rel=>exact⟨k+1,by omega,by go_num,Lib.hid (below_drewN HBr.out _),HNE⟩
    case measure=>simp [intOf]; omega
  ·obtain rfl:k=t.cap:=by omega
   have HF:=Lib.hid (show t.freeI = -1 by unfold TM.freeI; rw [if_neg (free_none HT0.out.ok HNr.out)])
   have HBW:=Lib.hid (HB0.out.trans (HBr.out.mono HB0.out.size))
   go_wp2_with fail
   go_ret
   exact⟨by rw [HF.out]; rfl,HBW.out⟩
theorem tplace_any (id:Nat) (h0:id<18446744073709551616):Calls Tryz.prog 174 #[.pointer (some ⟨gt,0,none⟩),.int .u64 (id:Int)] w (Told (.int .i64 (if id=0 then -1 else t.findI id)) w):=by
 have hb0:=(Below.refl w.heap.size w).alloc (Nat.le_refl _) (.cells #[.int .u64 (id:Int)] 47)
 have x0:(w.alloc (.cells #[.int .u64 (id:Int)] 47)).cell? ⟨w.heap.size,0,none⟩=some (.int .u64 (id:Int)):=(Blk.new w 47 #[.int .u64 (id:Int)]).cell 0
 have HI:=Lib.hid (tindexFunc_any (T.after hb0) x0)
 have HB0:=Lib.hid hb0
 clear T hb0
 by_cases hz:id=0
 ·subst hz
  rw [if_pos rfl]
  simp only [Int.natCast_zero] at x0 ⊢
  clear HI
  simp only [Int.natCast_zero] at HB0
  go_enter Tryz.func174,Tryz.ntmps174
  go_wp2_with fail
  go_ret
  exact⟨rfl,HB0.out⟩
 ·rw [if_neg hz]
  have hz2:((id:Int) == 0)=false:=by simpa using hz
  go_enter Tryz.func174,Tryz.ntmps174
  go_wp2_with fail
  refine HI.out.mono ?_
  rintro e w2 ⟨rfl,hb2⟩
  have HB2:=Lib.hid (below_top HB0.out hb2)
  clear hb2
  go_wp2_with fail
  go_ret
  exact⟨rfl,HB2.out⟩
end
end
end Go.Proofs.YtlkahgagmfhdaaaGreatDoor
