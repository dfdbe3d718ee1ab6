import Derived.Test.YtdoahpflemgaeaaGreatDoorJLive
import Derived.Test.YtdoahpflemgaeaaGreatDoorJLoad2
import Derived.Test.YtdoahpflemgaeaaGreatDoorJOop
import Derived.Test.YtdoahpflemgaeaaGreatDoorJText
import Derived.Test.YtdoahpflemgaeaaGreatDoorJMay
import Derived.Test.YtdoahpflemgaeaaGreatDoorJAlloc
import Derived.StillTailTactics
set_option linter.unusedVariables false
set_option linter.unusedSimpArgs false
set_option linter.unusedSectionVars false
namespace Go.Proofs.YtdoahpflemgaeaaGreatDoor
section
open Go.RowKit
structure Kp (h h':HM):Prop where
 isB:∀ x,h.isB x=true→h'.isB x=true
 shp:∀ x,h.isB x=true→(h'.hd (x / 2)).fmt=(h.hd (x / 2)).fmt∧(h'.hd (x / 2)).size=(h.hd (x / 2)).size∧(h'.hd (x / 2)).spare=(h.hd (x / 2)).spare
 txt:∀ x,h.isB x=true→(h.hd (x / 2)).fmt=2→∀ j,j<(h.hd (x / 2)).size→fw h' x j=fw h x j
 len:h.words.length≤h'.words.length
section
variable {h h' h'':HM} {l:List Ob}
theorem Kp.refl (h:HM):Kp h h:=⟨fun _ e=>e,fun _ _=>⟨rfl,rfl,rfl⟩,fun _ _ _ _ _=>rfl,Nat.le_refl _⟩
theorem Kp.trans (a:Kp h h') (b:Kp h' h''):Kp h h'':=
 ⟨fun x e=>b.isB x (a.isB x e),fun x e=>by
   obtain⟨a1,a2,a3⟩:=a.shp x e
   obtain⟨b1,b2,b3⟩:=b.shp x (a.isB x e)
   exact⟨b1.trans a1,b2.trans a2,b3.trans a3⟩,fun x e f j hj=>by
   obtain⟨a1,a2,a3⟩:=a.shp x e
   exact (b.txt x (a.isB x e) (a1.trans f) j (by omega)).trans (a.txt x e f j hj),Nat.le_trans a.len b.len⟩
theorem Kp.lenH (a:Kp h h') {x:Nat} (e:h.isB x=true):(h'.hd (x / 2)).len=(h.hd (x / 2)).len:=by
 obtain⟨a1,a2,a3⟩:=a.shp x e
 unfold Hd.len
 rw [a1,a2,a3]
theorem Kp.look (a:Kp h h') {x:Nat} (e:h.isB x=true) (i:Int) (fs:List Nat):h'.lookE x i fs=h.lookE x i fs:=by
 unfold HM.lookE
 rw [a.isB x e,e,(a.shp x e).1,a.lenH e]
theorem Kp.ptrs (a:Kp h h') {x:Nat} (e:h.isB x=true) (n:Nat):h'.ptrsK x n=h.ptrsK x n:=by
 unfold HM.ptrsK
 rw [a.isB x e,e,(a.shp x e).1,(a.shp x e).2.1]
theorem Kp.siz (a:Kp h h') {x:Nat} (e:h.isB x=true):h'.sizK x=h.sizK x:=by
 unfold HM.sizK HM.hdO
 rw [a.isB x e,e]
 exact (a.shp x e).2.1
theorem Kp.val (a:Kp h h') {x:Nat} (e:h.valB x=true):h'.valB x=true:=by
 unfold HM.valB at e ⊢
 simp only [Bool.or_eq_true] at e ⊢
 exact e.imp id (a.isB x)
theorem isTx_isB {x:Nat} {t:List Nat} (e:h.isTx x t=true):h.isB x=true:=by
 unfold HM.isTx at e
 simp only [Bool.and_eq_true] at e
 exact e.1
theorem w_app (h:HM) (x:Hd) (ys:List Nat) {i:Nat} (hi:i<h.words.length):(h.pushH x ys).w i=h.w i:=by
 unfold HM.w HM.pushH
 simp only
 rw [List.append_assoc,List.getD_eq_getElem?_getD,List.getElem?_append_left hi,← List.getD_eq_getElem?_getD]
theorem Kp.push (G:h.Good l) (x:Hd) (ys:List Nat):Kp h (h.pushH x ys):=by
 have hw:∀ y,h.isB y=true→∀ j,j<3+(h.hd (y / 2)).size→(h.pushH x ys).w (y / 2+j)=h.w (y / 2+j):=fun y hy j hj=>w_app h x ys (by have:=(G.fits hy).1; omega)
 refine⟨fun y hy=>?_,fun y hy=>?_,fun y hy _ j hj=>?_,by unfold HM.pushH; simp only [List.length_append]; omega⟩
 ·have h1:=HM.isB_lt hy
  unfold HM.isB at hy ⊢
  simp only [Bool.and_eq_true] at hy ⊢
  refine⟨hy.1,?_⟩
  unfold HM.pushH
  simp only
  rw [List.getD_eq_getElem?_getD,List.getElem?_append_left h1,← List.getD_eq_getElem?_getD]
  exact hy.2
 ·have e:(h.pushH x ys).hd (y / 2)=h.hd (y / 2):=by
   unfold HM.hd
   rw [show (h.pushH x ys).w (y / 2)=h.w (y / 2) from hw y hy 0 (by omega),hw y hy 1 (by omega),hw y hy 2 (by omega)]
  rw [e]
  exact⟨rfl,rfl,rfl⟩
 ·unfold fw
  have:=hw y hy (3+j) (by omega)
  rw [← Nat.add_assoc] at this
  exact this
theorem w_set (h:HM) (k v:Nat) {i:Nat} (hi:i≠k):({ h with words:=h.words.set k v }:HM).w i=h.w i:=by
 unfold HM.w
 simp only
 rw [List.getD_eq_getElem?_getD,List.getD_eq_getElem?_getD,List.getElem?_set,if_neg (fun e=>hi e.symm)]
theorem Kp.put (G:h.Good l) (o:Nat) (i:Int) (v:Nat):Kp h (h.putH o i v):=by
 by_cases h0:h.putE o i v=0
 ·obtain⟨p1,p2,p3,p4,p5,p6⟩:=put_parts h0
  rw [p6]
  have hk:i.toNat<(h.hd (o / 2)).size:=by omega
  refine⟨fun y hy=>hy,fun y hy=>?_,fun y hy hf j hj=>?_,by unfold HM.setF; simp⟩
  ·have e:(h.setF o i.toNat v).hd (y / 2)=h.hd (y / 2):=by
    unfold HM.hd HM.setF
    have q:∀ j,j<3→y / 2+j≠o / 2+3+i.toNat:=fun j hj e=>G.farh p1 hy hk hj e.symm
    rw [show HM.w _ (y / 2)=h.w (y / 2) from w_set h _ v (q 0 (by omega)),w_set h _ v (q 1 (by omega)),w_set h _ v (q 2 (by omega))]
   rw [e]
   exact⟨rfl,rfl,rfl⟩
  ·unfold fw HM.setF
   exact w_set h _ v (fun e=>G.far p1 hy hk hj (.inl (fun e=>by subst e; omega)) e.symm)
 ·have e:h.putH o i v=h:=by unfold HM.putH; rw [if_neg h0]
  rw [e]
  exact Kp.refl h
theorem Kp.setRoot (i:Int) (v:Nat):Kp h (h.setRootH i v):=by
 unfold HM.setRootH
 split
 ·exact ⟨fun _ e=>e,fun _ _=>⟨rfl,rfl,rfl⟩,fun _ _ _ _ _=>rfl,Nat.le_refl _⟩
 ·exact Kp.refl h
end
end
section
open Go.RowKit
section
variable {h h':HM} {l:List Ob}
theorem fld_keep (a:Kp h h') {x:Nat} (hb:h.isB x=true) (hw:∀ j,j<(h.hd (x / 2)).size→fw h' x j=fw h x j) (i:Nat):h'.fldK x i=h.fldK x i:=by
 unfold HM.fldK
 rw [a.ptrs hb]
 by_cases hp:h.ptrsK x 0=true
 ·rw [if_pos hp,if_pos hp]
  unfold HM.readN
  rw [a.look hb]
  by_cases hl:h.lookE x (i:Nat) [1,4]=0
  ·rw [if_pos hl,if_pos hl]
   obtain⟨h1,h2,h3,h4⟩:=HM.look_ok hl
   have hf:(h.hd (x / 2)).fmt=1∨(h.hd (x / 2)).fmt=4:=by simpa using h2
   unfold Hd.len at h4
   rw [if_neg (by omega)] at h4
   exact hw _ (by omega)
  ·rw [if_neg hl,if_neg hl]
 ·rw [if_neg hp,if_neg hp]
theorem fw_push (G:h.Good l) (y:Hd) (ys:List Nat) {x:Nat} (hb:h.isB x=true) {j:Nat} (hj:j<(h.hd (x / 2)).size):fw (h.pushH y ys) x j=fw h x j:=by
 unfold fw
 exact w_app h y ys (by have:=(G.fits hb).1; omega)
theorem alloc_push {c:Nat} {f n:Int} (h0:h.AllocE c f n=0):h.AllocH c f n=h.pushH (mkHd c f n) (List.replicate (mkHd c f n).size (h.fill (mkHd c f n))):=by
 rw [HM.AllocH_eq,if_pos h0]
theorem fw_put (G:h.Good l) (o:Nat) (i:Int) (v:Nat) {x:Nat} (hb:h.isB x=true) {j:Nat} (hj:j<(h.hd (x / 2)).size) (hne:x≠o∨(j:Int)≠i):fw (h.putH o i v) x j=fw h x j:=by
 by_cases h0:h.putE o i v=0
 ·obtain⟨p1,p2,p3,p4,p5,p6⟩:=put_parts h0
  rw [p6]
  unfold fw HM.setF
  exact w_set h _ v (fun e=>G.far p1 hb (k:=i.toNat) (j:=j) (by omega) hj (by
   rcases hne with q | q
   ·exact .inl (fun e=>q e.symm)
   ·exact .inr (by omega)) e.symm)
 ·have e:h.putH o i v=h:=by unfold HM.putH; rw [if_neg h0]
  rw [e]
theorem copy_succ (h:HM) (b:Nat) (f:Nat→Nat) (n:Nat):h.copyK b f (n+1)=(h.copyK b f n).putH b n (f n):=by
 unfold HM.copyK
 rw [List.range_succ,List.foldl_append]
 rfl
theorem copy_good (G:h.Good l) (b:Nat) (f:Nat→Nat) (hf:∀ i,f i<4294967296):∀ n,(∃ l',(h.copyK b f n).Good l')∧Kp h (h.copyK b f n)∧∀ x,h.isB x=true→x≠b→∀ j,j<(h.hd (x / 2)).size→fw (h.copyK b f n) x j=fw h x j
 | 0=>⟨⟨l,G⟩,Kp.refl h,fun _ _ _ _ _=>rfl⟩
 | n+1=>by
   obtain⟨⟨l1,G1⟩,K1,W1⟩:=copy_good G b f hf n
   rw [copy_succ]
   obtain⟨l2,G2,_⟩:=G1.putH b n (f n) (hf n)
   refine⟨⟨l2,G2⟩,K1.trans (Kp.put G1 b n (f n)),fun x hx hne j hj=>?_⟩
   rw [fw_put G1 b n (f n) (K1.isB x hx) (by rw [(K1.shp x hx).2.1]; exact hj) (.inl hne)]
   exact W1 x hx hne j hj
theorem copy_fld (G:h.Good l) {c:Nat} {n:Int} (hc:c<4294967296) (h0:h.AllocE c 1 n=0) {a:Nat} (ha:h.isB a=true) (f:Nat→Nat) (hf:∀ i,f i<4294967296) (k i:Nat):
 ((h.AllocH c 1 n).copyK (2*h.words.length) f k).fldK a i=h.fldK a i:=by
 obtain⟨l1,G1⟩:=G.AllocH c 1 n hc
 have K1:Kp h (h.AllocH c 1 n):=by rw [alloc_push h0]; exact Kp.push G _ _
 obtain⟨_,K2,W2⟩:=copy_good G1 (2*h.words.length) f hf k
 have hne:a≠2*h.words.length:=fun e=>by
  have:=(G.fits ha).1
  omega
 refine fld_keep (K1.trans K2) ha (fun j hj=>?_) i
 rw [W2 a (K1.isB a ha) hne j (by rw [(K1.shp a ha).2.1]; exact hj),alloc_push h0]
 exact fw_push G _ _ ha hj
end
end
section
open Go.RowKit
theorem Live.load {W w:World} {p:HP} {g:Nat} {h:HM} (L:Live W w p g h) (A:Option Addr) (n c:Nat) (ws:List Nat) (hn:n≤9223372036854775807) (hr:Reads w w.heap.size 1 A n (u32s ws)) (h32:∀ x∈ws,x<4294967296)
 (A':Option Addr) (n' c':Nat) (rs:List Nat) (hn':n'≤9223372036854775807) (hr':Reads w w.heap.size 1 A' n' (u32s rs)) (h32':∀ x∈rs,x<4294967296) (last:Nat) (hl:last<4294967296):
 Calls Tryz.prog 115 #[.pointer (some ⟨g,0,none⟩),.slice A n c,.slice A' n' c',.int .u32 last] w (Done W p g (h.loadH ws rs last) (.int .i64 (loadE h.size ws rs last:Nat)) w):=by
 have hh:=Load_any L.at_ L.fit L.envw.spares (fun k hk=>by
  have h1:=L.envw.spares.lt
  have h2:=L.envw.pow.lt
  exact⟨by omega,by omega⟩) A n c ws hn hr h32 A' n' c' rs hn' hr' h32' last hl
 rw [L.hg] at hh
 refine hh.mono fun _ _ H=>L.of_made ?_ H
 unfold HM.loadH
 by_cases he:loadE h.size ws rs last=0
 ·rw [if_pos he]
  unfold loadE at he
  split at he
  ·omega
  ·rename_i hb
   split at he
   ·rename_i hok
    obtain⟨l,hp,S⟩:=hok
    have f:=L.fit
    exact⟨l,HM.ofWords_good f.lo f.hi h32 h32' (by omega) hl (by omega) hp S⟩
   ·omega
 ·rw [if_neg he]; exact L.good
theorem HM.Good.load_self {h h0:HM} {l:List Ob} (G:h.Good l) (hs:h0.size=h.size):loadE h0.size h.words h.roots h.last=0∧h0.loadH h.words h.roots h.last=h:=by
 have e:=loadE_ok (size:=h0.size) (ws:=h.words) (rs:=h.roots) (last:=h.last) (by
  have:=G.fit.one; have:=G.fit.room; have:=G.fit.roots
  omega) (by rw [hs]; exact G.loadOk)
 refine⟨e,?_⟩
 unfold HM.loadH
 rw [if_pos e,hs]
 exact G.ofWords.1
end
section
open Go.RowKit
set_option maxHeartbeats 2000000 in
theorem rmay_any (x:Hd) (f:x.Fit) (w:World):
 Calls Tryz.prog 160 #[x.val] w fun e w'=>e = .returned (.bool x.may)∧Below w.heap.size w w':=by
 obtain⟨n,t,s,c,r⟩:=x
 obtain⟨f1,f2,f3,f4,f5⟩:=f
 simp only at f1 f2 f3 f4 f5
 unfold Hd.val
 by_cases h1:65535<n
 ·have HF:=Lib.hid (show Hd.may ⟨n,t,s,c,r⟩=false by simp [Hd.may]; omega)
  go_enter Tryz.func160,Tryz.ntmps160
  go_wp2_with fail
  go_ret
  exact⟨by rw [HF.out]; rfl,(Below.refl _ _).alloc (Nat.le_refl _) _⟩
 by_cases h2:t<1
 ·have HF:=Lib.hid (show Hd.may ⟨n,t,s,c,r⟩=false by simp [Hd.may]; omega)
  go_enter Tryz.func160,Tryz.ntmps160
  go_wp2_with fail
  go_ret
  exact⟨by rw [HF.out]; rfl,(Below.refl _ _).alloc (Nat.le_refl _) _⟩
 by_cases h3:4<t
 ·have HF:=Lib.hid (show Hd.may ⟨n,t,s,c,r⟩=false by simp [Hd.may]; omega)
  go_enter Tryz.func160,Tryz.ntmps160
  go_wp2_with fail
  go_ret
  exact⟨by rw [HF.out]; rfl,(Below.refl _ _).alloc (Nat.le_refl _) _⟩
 by_cases h4:s=0
 ·subst h4
  have HF:=Lib.hid (show Hd.may ⟨n,t,0,c,r⟩=true by simp [Hd.may]; omega)
  go_enter Tryz.func160,Tryz.ntmps160
  go_wp2_with fail
  go_ret
  exact⟨by rw [HF.out]; rfl,(Below.refl _ _).alloc (Nat.le_refl _) _⟩
 have h4':((s:Int) == 0)=false:=by simpa using h4
 by_cases h5:t=2
 ·subst h5
  by_cases h6:n=0
  ·subst h6
   have HF:=Lib.hid (show Hd.may ⟨0,2,s,c,r⟩=false by simp [Hd.may,h4])
   clear h4
   go_enter Tryz.func160,Tryz.ntmps160
   go_wp2_with fail
   go_ret
   exact⟨by rw [HF.out]; rfl,(Below.refl _ _).alloc (Nat.le_refl _) _⟩
  ·have HF:=Lib.hid (show Hd.may ⟨n,2,s,c,r⟩=true by simp [Hd.may]; omega)
   have h7:(0:Int)<n:=by omega
   clear h4 h6
   go_enter Tryz.func160,Tryz.ntmps160
   go_wp2_with fail
   go_ret
   exact⟨by rw [HF.out]; simp; omega,(Below.refl _ _).alloc (Nat.le_refl _) _⟩
 ·have HF:=Lib.hid (show Hd.may ⟨n,t,s,c,r⟩=false by simp [Hd.may]; omega)
  have h5':((t:Int) == 2)=false:=by simp; omega
  clear h4 h5
  go_enter Tryz.func160,Tryz.ntmps160
  go_wp2_with fail
  go_ret
  exact⟨by rw [HF.out]; rfl,(Below.refl _ _).alloc (Nat.le_refl _) _⟩
set_option maxHeartbeats 1000000 in
theorem rpack_any (x:Hd) (f:x.Fit) (w:World):
 Calls Tryz.prog 139 #[x.val] w fun e w'=>e = .returned x.packed∧Below w.heap.size w w':=by
 obtain⟨n,t,s,c,r⟩:=x
 obtain⟨f1,f2,f3,f4,f5⟩:=f
 simp only at f1 f2 f3 f4 f5
 have HF:=Lib.hid (show Hd.packed ⟨n,t,s,c,r⟩ = .agg #[.int .u32 ((n:Int)+(t:Int)*16777216+(s:Int)*134217728),.int .u32 c,.int .u32 r] by simp [Hd.packed,Hd.w0])
 unfold Hd.val
 go_enter Tryz.func139,Tryz.ntmps139
 go_wp2_with fail
 refine bodyPost_ret (v:=.agg #[.int .u32 ((n:Int)+(t:Int)*16777216+(s:Int)*134217728),.int .u32 c,.int .u32 r]) (by simp [results,Tryz.results139,go_sem]) rfl ⟨by rw [HF.out],?_⟩
 exact ((Below.refl _ _).alloc (Nat.le_refl _) _).alloc (by simp) _
def unpackV (a b c:Nat):Value:=.tuple #[if okhd a b c then (unhd a b c).val else .agg #[.int .i64 0,.int .i64 0,.int .i64 0,.int .u32 0,.int .u32 0],.bool (okhd a b c)]
set_option maxHeartbeats 2000000 in
theorem runpack_any (a b c:Nat) (ha:a<4294967296) (hb:b<4294967296) (hc:c<4294967296) (w:World):
 Calls Tryz.prog 142 #[.agg #[.int .u32 a,.int .u32 b,.int .u32 c]] w (Told (unpackV a b c) w):=by
 have hx:(unhd a b c).val = .agg #[.int .i64 ((a:Int)%16777216),.int .i64 ((a:Int) / 16777216%8),.int .i64 ((a:Int) / 134217728%4),.int .u32 b,.int .u32 c]:=rfl
 have HX:=Lib.hid hx
 have HF:=Lib.hid (unhd_fit a b c hb hc)
 by_cases hlt:a<536870912
 ·have hd:(((a:Int) / 536870912) != 0)=false:=by simp; omega
  cases hok:(unhd a b c).may
  ·have HV:=Lib.hid (show unpackV a b c = .tuple #[.agg #[.int .i64 0,.int .i64 0,.int .i64 0,.int .u32 0,.int .u32 0],.bool false] by simp [unpackV,okhd,hok])
   have HM:=Lib.hid (fun w=>(rmay_any _ HF.out w))
   rw [HX.out,hok] at HM
   clear hok hx hlt
   go_enter Tryz.func142,Tryz.ntmps142
   go_wp2_with fail
   generalize hW:((w.alloc _).alloc _).alloc _=W
   have hbW:Below w.heap.size w W:=by rw [← hW]; exact (((Below.refl _ _).alloc (Nat.le_refl _) _).alloc (by simp) _).alloc (by simp; omega) _
   have B1:Blk W (w.heap.size+1) 137 #[.int .i64 0,.int .i64 0,.int .i64 0,.int .u32 0,.int .u32 0]:=by
    rw [← hW]
    have:=(Blk.new (w.alloc (.cells #[.int .u32 a,.int .u32 b,.int .u32 c] 170)) 137 #[.int .i64 0,.int .i64 0,.int .i64 0,.int .u32 0,.int .u32 0]).alloc (.cells #[.int .i64 ((a:Int)%16777216),.int .i64 ((a:Int) / 16777216%8),.int .i64 ((a:Int) / 134217728%4),.int .u32 b,.int .u32 c] 137)
    rw [World.size_alloc] at this
    exact this
   have B2:Blk W (w.heap.size+1+1) 137 #[.int .i64 ((a:Int)%16777216),.int .i64 ((a:Int) / 16777216%8),.int .i64 ((a:Int) / 134217728%4),.int .u32 b,.int .u32 c]:=by
    rw [← hW]
    have:=Blk.new ((w.alloc (.cells #[.int .u32 a,.int .u32 b,.int .u32 c] 170)).alloc (.cells #[.int .i64 0,.int .i64 0,.int .i64 0,.int .u32 0,.int .u32 0] 137)) 137 #[.int .i64 ((a:Int)%16777216),.int .i64 ((a:Int) / 16777216%8),.int .i64 ((a:Int) / 134217728%4),.int .u32 b,.int .u32 c]
    rw [World.size_alloc,World.size_alloc] at this
    exact this
   clear hW
   refine (HM.out _).mono ?_
   rintro e w1 ⟨rfl,hb1⟩
   replace B1:=B1.below hb1 B1.lt
   replace B2:=B2.below hb1 B2.lt
   have hb:=below_top hbW hb1
   clear hb1 hbW
   obtain⟨a0,a1,a2,a3,a4⟩:=B2.cells5
   obtain⟨d0,d1,d2,d3,d4⟩:=B1.cells5
   have z1:=B1.fz
   have hz1:=B1.lt
   go_wp2_with fail
   refine bodyPost_ret (v:=.tuple #[.agg #[.int .i64 0,.int .i64 0,.int .i64 0,.int .u32 0,.int .u32 0],.bool false]) (by simp [results,Tryz.results142,go_sem,d0,d1,d2,d3,d4]) rfl ⟨by rw [HV.out],?_⟩
   exact ((((hb.setCell (by simp) _).setCell (by simp) _).setCell (by simp) _).setCell (by simp) _).setCell (by simp) _
  ·have HV:=Lib.hid (show unpackV a b c = .tuple #[(unhd a b c).val,.bool true] by simp [unpackV,okhd,hok,hlt])
   have HM:=Lib.hid (fun w=>(rmay_any _ HF.out w))
   rw [HX.out,hok] at HM
   clear hok hx hlt
   go_enter Tryz.func142,Tryz.ntmps142
   go_wp2_with fail
   generalize hW:((w.alloc _).alloc _).alloc _=W
   have hbW:Below w.heap.size w W:=by rw [← hW]; exact (((Below.refl _ _).alloc (Nat.le_refl _) _).alloc (by simp) _).alloc (by simp; omega) _
   have B1:Blk W (w.heap.size+1) 137 #[.int .i64 0,.int .i64 0,.int .i64 0,.int .u32 0,.int .u32 0]:=by
    rw [← hW]
    have:=(Blk.new (w.alloc (.cells #[.int .u32 a,.int .u32 b,.int .u32 c] 170)) 137 #[.int .i64 0,.int .i64 0,.int .i64 0,.int .u32 0,.int .u32 0]).alloc (.cells #[.int .i64 ((a:Int)%16777216),.int .i64 ((a:Int) / 16777216%8),.int .i64 ((a:Int) / 134217728%4),.int .u32 b,.int .u32 c] 137)
    rw [World.size_alloc] at this
    exact this
   have B2:Blk W (w.heap.size+1+1) 137 #[.int .i64 ((a:Int)%16777216),.int .i64 ((a:Int) / 16777216%8),.int .i64 ((a:Int) / 134217728%4),.int .u32 b,.int .u32 c]:=by
    rw [← hW]
    have:=Blk.new ((w.alloc (.cells #[.int .u32 a,.int .u32 b,.int .u32 c] 170)).alloc (.cells #[.int .i64 0,.int .i64 0,.int .i64 0,.int .u32 0,.int .u32 0] 137)) 137 #[.int .i64 ((a:Int)%16777216),.int .i64 ((a:Int) / 16777216%8),.int .i64 ((a:Int) / 134217728%4),.int .u32 b,.int .u32 c]
    rw [World.size_alloc,World.size_alloc] at this
    exact this
   clear hW
   refine (HM.out _).mono ?_
   rintro e w1 ⟨rfl,hb1⟩
   replace B1:=B1.below hb1 B1.lt
   replace B2:=B2.below hb1 B2.lt
   have hb:=below_top hbW hb1
   clear hb1 hbW
   obtain⟨a0,a1,a2,a3,a4⟩:=B2.cells5
   obtain⟨d0,d1,d2,d3,d4⟩:=B1.cells5
   have z1:=B1.fz
   have hz1:=B1.lt
   go_wp2_with fail
   refine bodyPost_ret (v:=.tuple #[.agg #[.int .i64 ((a:Int)%16777216),.int .i64 ((a:Int) / 16777216%8),.int .i64 ((a:Int) / 134217728%4),.int .u32 b,.int .u32 c],.bool true]) (by simp [results,Tryz.results142,go_sem,d0,d1,d2,d3,d4]) rfl ⟨by rw [HV.out]; rw [HX.out],?_⟩
   exact ((((hb.setCell (by simp) _).setCell (by simp) _).setCell (by simp) _).setCell (by simp) _).setCell (by simp) _
 ·have hd:(((a:Int) / 536870912) != 0)=true:=by simp; omega
  have HV:=Lib.hid (show unpackV a b c = .tuple #[.agg #[.int .i64 0,.int .i64 0,.int .i64 0,.int .u32 0,.int .u32 0],.bool false] by simp [unpackV,okhd,hlt])
  clear hx hlt
  go_enter Tryz.func142,Tryz.ntmps142
  go_wp2_with fail
  refine bodyPost_ret (v:=.tuple #[.agg #[.int .i64 0,.int .i64 0,.int .i64 0,.int .u32 0,.int .u32 0],.bool false]) (by simp [results,Tryz.results142,go_sem]) rfl ⟨by rw [HV.out],?_⟩
  exact (((Below.refl _ _).alloc (Nat.le_refl _) _).alloc (by simp) _).alloc (by simp; omega) _
end
section
open Go.RowKit
theorem rlength_any (n:Nat) (hn:n≤1000000) (w:World):
 Calls Tryz.prog 104 #[.int .i64 n] w fun e w'=>e = .returned (.tuple #[.int .i64 ((n+3) / 4:Nat),.int .i64 (4*((n+3) / 4)-n:Nat)])∧w=w':=by
 go_enter Tryz.func104,Tryz.ntmps104
 go_wp2_with fail
 go_loop [4] (fun v=>∃ k:Nat,v = .int .i64 k∧4*k<n+4) (fun v=>n-(intOf v).toNat)
 case atStart=>exact⟨0,rfl,by omega⟩
 case round=>
  obtain⟨k,rfl,hk⟩:=hrel
  by_cases hlt:4*k<n
  ·have hl:(4:Int)*k<n:=by omega
   go_wp2_with fail
   go_round
   case rel=>exact⟨k+1,by go_num,by omega⟩
   case measure=>simp [intOf]; omega
  ·have hl:¬ (4:Int)*k<n:=by omega
   have HE:=Lib.hid (show ((n:Int)+3) / 4=k by omega)
   have HEN:=Lib.hid (show (n+3) / 4=k by omega)
   have HE2:=Lib.hid (show ((4*k-n:Nat):Int)=(4:Int)*k-n by omega)
   go_wp2_with fail
   go_ret2
   exact⟨by rw [HE.out,HEN.out,HE2.out]; rfl,rfl⟩
end
section
open Go.RowKit
theorem wordAt_low (bs:List Nat) (h:∀ x∈bs,x<256) (k:Nat):wordAt (bs.take k) (k / 4)<2 ^ (8*(k%4)):=by
 have h0:=getD_lt bs h (4*(k / 4))
 have h1:=getD_lt bs h (4*(k / 4)+1)
 have h2:=getD_lt bs h (4*(k / 4)+2)
 unfold wordAt
 simp only [take_getD]
 rcases (by omega:k%4=0∨k%4=1∨k%4=2∨k%4=3) with r | r | r | r <;> rw [r]
 ·rw [if_neg (by omega),if_neg (by omega),if_neg (by omega),if_neg (by omega)]; omega
 ·rw [if_pos (by omega),if_neg (by omega),if_neg (by omega),if_neg (by omega)]; omega
 ·rw [if_pos (by omega),if_pos (by omega),if_neg (by omega),if_neg (by omega)]; omega
 ·rw [if_pos (by omega),if_pos (by omega),if_pos (by omega),if_neg (by omega)]; omega
theorem wordAt_sum (bs:List Nat) (h:∀ x∈bs,x<256) (k:Nat):wordAt (bs.take k) (k / 4) ||| (bs.getD k 0*2 ^ (8*(k%4)))=wordAt (bs.take k) (k / 4)+bs.getD k 0*256 ^ (k%4):=by
 rw [Nat.or_comm,nat_join (8*(k%4)) _ _ (by simp) (wordAt_low bs h k),Nat.add_comm,Nat.pow_mul]
theorem pow256_le (j:Nat) (h:j<3):256 ^ j≤65536:=by
 rcases (by omega:j=0∨j=1∨j=2) with rfl | rfl | rfl <;> decide
def RPackB (bs:List Nat) (w:World) (d:Ending) (w':World):Prop:=
 ∃ g,d = .returned (.slice (some ⟨g,0,none⟩) (packM bs).length (packM bs).length)∧Row w' g 37 (packM bs).length (u32s (packM bs))∧w.heap.size≤g∧Below w.heap.size w w'
set_option maxHeartbeats 4000000 in
theorem rpackBytes_any {w:World} (A:Option Addr) (n c B:Nat) (bs:List Nat) (hn:n≤262140) (hr:Reads w B 1 A n (u8c bs)) (hB:B≤w.heap.size) (hb:∀ x∈bs,x<256):
 Calls Tryz.prog 105 #[.slice A n c] w (RPackB bs w):=by
 have hl:bs.length=n:=by have:=hr.1; simpa [u8c] using this
 subst hl
 have HL:=Lib.hid (rlength_any bs.length (by omega) w)
 have HRD:=Lib.hid hr
 have HBB:=Lib.hid hb
 have hmk:=make_u32 ((bs.length+3) / 4) (by omega)
 have HPL:=Lib.hid (packM_len bs)
 have hpk:packM bs=packK ((bs.length+3) / 4) bs bs.length:=rfl
 have HPK:=Lib.hid hpk
 clear hr hb hpk
 have hF:bs.length≤4*((bs.length+3) / 4):=by omega
 have hF2:(bs.length+3) / 4≤65535:=by omega
 generalize hFe:(bs.length+3) / 4=F at *
 have HFE:=Lib.hid hFe
 clear hFe
 generalize hN:bs.length=N at *
 have HN:=Lib.hid hN
 clear hN
 generalize 4*F-N=sp at *
 go_enter Tryz.func105,Tryz.ntmps105
 go_wp2_with fail
 refine HL.out.mono ?_
 rintro e w1 ⟨rfl,rfl⟩
 go_wp2_with fail
 have HS:=Lib.hid (show Row (w.alloc (.cells (zcells (.int .u32 0) F) 37)) w.heap.size 37 F (u32s (packK F bs 0)) from by rw [packK_zero]; exact zcells_row w _ F 0 (by simp only [maxLen]; omega))
 have HB0:=Lib.hid (show Below w.heap.size w (w.alloc (.cells (zcells (.int .u32 0) F) 37)) from (Below.refl _ _).alloc (Nat.le_refl _) _)
 clear hmk
 go_loopw [6] (fun i wr=>∃ k:Nat,k≤N∧i = .int .i64 k∧Row wr w.heap.size 37 F (u32s (packK F bs k))∧Below w.heap.size w wr) (fun i _=>N-(intOf i).toNat)
 case atStart=>exact⟨0,by omega,rfl,HS.out,HB0.out⟩
 case round=>
  clear HS HB0
  obtain⟨k,hk,rfl,hrow,hbel⟩:=hrel
  by_cases hlt:k<N
  ·obtain⟨ad,u0,hA,_,hx,hcell0⟩:=(HRD.out.below (hbel.mono hB)).at_ hlt
   obtain⟨x,hxe,rfl⟩:=u8c_at hx
   have hx8:=HBB.out x (List.mem_of_getElem? hxe)
   have hkF:k / 4<F:=by omega
   have hcw:=hrow.cell (i:=k / 4) (u:=.int .u32 ((wordAt (bs.take k) (k / 4):Nat):Int)) (by simp [u32s,packK_get F bs k _ hkF])
   have hcf:=hrow.frozen (k / 4)
   have hold:=wordAt_low bs HBB.out k
   have hstep:=packK_step F bs HBB.out k hkF
   have hsum:=wordAt_sum bs HBB.out k
   have hxg:bs.getD k 0=x:=by simp [List.getD,hxe]
   rw [hsum,hxg] at hstep
   have hset:=hrow.set (k / 4) (.int .u32 ((wordAt (bs.take k) (k / 4)+x*256 ^ (k%4):Nat):Int))
   rw [show (u32s (packK F bs k)).set (k / 4) (.int .u32 ((wordAt (bs.take k) (k / 4)+x*256 ^ (k%4):Nat):Int))=u32s (packK F bs (k+1)) by rw [← hstep]; simp [u32s]] at hset
   have hbig:wordAt (bs.take k) (k / 4)+x*256 ^ (k%4)≤4294967295:=by
    rcases (by omega:k%4=0∨k%4=1∨k%4=2∨k%4=3) with r | r | r | r <;> rw [r] at hold ⊢ <;> omega
   have HSET:=Lib.hid hset
   clear hset hstep hxg hxe hx hrow hsum hold
   generalize wordAt (bs.take k) (k / 4)=old at *
   obtain⟨j,hj⟩ :∃ j,k / 4=j:=⟨_,rfl⟩
   have hdiv:(k:Int) / 4=(j:Int):=by omega
   rw [hj] at hcw hcf HSET hkF
   clear hj
   have HBEL:=Lib.hid hbel
   clear hbel
   have hjF:(j:Int)<(F:Int):=by omega
   have hj0:(0:Int)≤(j:Int):=by omega
   subst hA
   have hr4:k%4≤3:=by omega
   have hmod:(k:Int)%4=((k%4:Nat):Int):=by omega
   generalize k%4=r at *
   have hbigI:(old:Int)+((x*256 ^ r:Nat):Int)≤4294967295:=by omega
   have HBIG:=Lib.hid hbigI
   clear hbig hbigI
   obtain⟨wo,hwo⟩ :∃ wo:World,wo=wr:=⟨_,rfl⟩
   subst hwo
   go_wp2_with fail
   go_loop [7,8] (fun v i=>∃ q:Nat,q≤r∧i = .int .i64 q∧v = .int .u32 ((x*256 ^ q:Nat):Int)) (fun _ i=>r-(intOf i).toNat)
   case atStart=>exact⟨0,by omega,rfl,by simp⟩
   case round=>
    obtain⟨q,hq,rfl,rfl⟩:=hrel
    by_cases hql:q<r
    ·have hy:x*256 ^ q≤16777215:=Nat.le_trans (Nat.mul_le_mul (by omega:x≤255) (pow256_le q (by omega))) (by omega)
     have HY:=Lib.hid (show x*256 ^ (q+1)=x*256 ^ q*256 by rw [Nat.pow_succ,Nat.mul_assoc])
     generalize x*256 ^ q=y at *
     go_wp2_with fail
     go_round
     case rel=>exact⟨q+1,by omega,by go_num,by rw [HY.out]; go_num⟩
     case measure=>simp [intOf]; omega
    ·obtain rfl:q=r:=by omega
     have hbigI:=HBIG.out
     generalize x*256 ^ q=y at *
     clear HBIG
     go_wp2_with fail
     go_roundw
     case rel=>exact⟨k+1,by omega,by go_num,HSET.out,(HBEL.out.setCell (by simp) _)⟩
     case measure=>simp [intOf]; omega
  ·obtain rfl:k=N:=by omega
   have HR:=Lib.hid hrow
   have HBEL:=Lib.hid hbel
   clear hrow hbel
   go_wp2_with fail
   go_ret
   refine⟨w.heap.size,?_,?_,Nat.le_refl _,HBEL.out⟩
   ·rw [HPL.out]; rfl
   ·rw [HPL.out,HPK.out]
    exact HR.out
end
section
open Go.RowKit
theorem below_alloc1 {W w:World} {o:Obj} (h:Below W.heap.size W w):Below W.heap.size W (w.alloc o):=h.alloc h.size o
theorem below_set5 {W w:World} {a b c d e:Value} {g:Nat} (h:Below W.heap.size W w) (hg:W.heap.size≤g:=by simp):Below W.heap.size W (((((w.setCell ⟨g,0,none⟩ a).setCell ⟨g,1,none⟩ b).setCell ⟨g,2,none⟩ c).setCell ⟨g,3,none⟩ d).setCell ⟨g,4,none⟩ e):=
 ((((h.setCell (p:=⟨g,0,none⟩) hg _).setCell (p:=⟨g,1,none⟩) hg _).setCell (p:=⟨g,2,none⟩) hg _).setCell (p:=⟨g,3,none⟩) hg _).setCell (p:=⟨g,4,none⟩) hg _
theorem begin_one (b:Bool):(((if b=true then 1 else 0:Int)) == 1)=b:=by cases b <;> rfl
section
variable {w:World} {p:HP} {h:HM} (R:RAt w p h) (f:h.Fit)
include R f
theorem ris_any (o:Nat) (ho:o<4294967296):
 Calls Tryz.prog 97 #[ptr p.g,.int .u32 o] w (Said (.bool (h.isB o)) w):=by
 have c4:=R.c4
 have hlen:=f.marks
 have hroom:=f.room
 have hhi:=f.hi
 unfold ptr
 by_cases h0:o=0
 ·subst h0
  have HF:=Lib.hid (show h.isB 0=false by simp [HM.isB,objB,kindM])
  go_enter Tryz.func97,Tryz.ntmps97
  go_wp2_with fail
  go_ret
  exact⟨by rw [HF.out]; rfl,rfl⟩
 have hb:((o:Int) != 0)=true:=by simpa using h0
 by_cases h1:o%2=1
 ·have HF:=Lib.hid (show h.isB o=false by simp [HM.isB,objB,kindM,h0,h1])
  have hb2:((o:Int)%2 == 0)=false:=by simp; omega
  clear h0 h1
  go_enter Tryz.func97,Tryz.ntmps97
  go_wp2_with fail
  go_ret
  exact⟨by rw [HF.out]; rfl,rfl⟩
 have hb2:((o:Int)%2 == 0)=true:=by simp; omega
 have hk:objB o=true:=(objB_iff o).2 ⟨h0,by omega⟩
 by_cases hl:o / 2<h.starts.length
 ·have hcell:=R.mark hl
  have HF:=Lib.hid (show h.isB o=h.starts.getD (o / 2) false by simp [HM.isB,hk])
  generalize h.starts.getD (o / 2) false=b at *
  have hq:((o:Int) / 2)=((o / 2:Nat):Int):=by omega
  generalize o / 2=q at *
  have hlt:(q:Int)<(h.starts.length:Int):=by omega
  have h1b:=begin_one b
  clear hk h0 h1
  cases b
  all_goals
   go_enter Tryz.func97,Tryz.ntmps97
   go_wp2_with fail
   go_ret
   exact⟨by rw [HF.out]; rfl,rfl⟩
 ·have HF:=Lib.hid (show h.isB o=false by rw [HM.isB,List.getD_eq_getElem?_getD,List.getElem?_eq_none (by omega)]; simp)
  have hq:((o:Int) / 2)=((o / 2:Nat):Int):=by omega
  generalize o / 2=q at *
  have hlt:(h.starts.length:Int)≤(q:Int):=by omega
  clear hk h0 h1
  go_enter Tryz.func97,Tryz.ntmps97
  go_wp2_with fail
  go_ret
  exact⟨by rw [HF.out]; rfl,rfl⟩
theorem risclass_any (o:Nat) (ho:o<4294967296):
 Calls Tryz.prog 94 #[ptr p.g,.int .u32 o] w (Said (.bool (h.clsB o)) w):=by
 have HI:=Lib.hid (ris_any R f o ho)
 unfold ptr at HI ⊢
 by_cases h0:o=0
 ·have HF:=Lib.hid (show h.clsB o=true by simp [HM.clsB,h0])
  have hb:((o:Int) == 0)=true:=by simp; omega
  clear h0
  go_enter Tryz.func94,Tryz.ntmps94
  go_wp2_with fail
  go_ret
  exact⟨by rw [HF.out]; rfl,rfl⟩
 ·have HF:=Lib.hid (show h.clsB o=h.isB o by simp [HM.clsB,h0])
  have hb:((o:Int) == 0)=false:=by simp; omega
  generalize h.isB o=b at *
  clear h0
  go_enter Tryz.func94,Tryz.ntmps94
  go_wp2_with fail
  refine HI.out.mono ?_
  rintro e w1 ⟨rfl,rfl⟩
  go_wp2_with fail
  go_ret
  exact⟨by rw [HF.out]; rfl,rfl⟩
theorem rvalb_any (o:Nat) (ho:o<4294967296):
 Calls Tryz.prog 63 #[ptr p.g,.int .u32 o] w (Said (.bool (h.valB o)) w):=by
 have HI:=Lib.hid (ris_any R f o ho)
 unfold ptr at HI ⊢
 by_cases h0:o=0
 ·have HF:=Lib.hid (show h.valB o=true by simp [HM.valB,objB,kindM,h0])
  have hb:((o:Int) == 0)=true:=by simp; omega
  clear h0
  go_enter Tryz.func63,Tryz.ntmps63
  go_wp2_with fail
  go_ret
  exact⟨by rw [HF.out]; rfl,rfl⟩
 have hb:((o:Int) == 0)=false:=by simp; omega
 by_cases h1:o%2=1
 ·have HF:=Lib.hid (show h.valB o=true by simp [HM.valB,objB,kindM,h0,h1])
  have hb2:((o:Int)%2 == 1)=true:=by simp; omega
  clear h0 h1
  go_enter Tryz.func63,Tryz.ntmps63
  go_wp2_with fail
  go_ret
  exact⟨by rw [HF.out]; rfl,rfl⟩
 ·have HF:=Lib.hid (show h.valB o=h.isB o by simp [HM.valB,objB,kindM,h0,h1])
  have hb2:((o:Int)%2 == 1)=false:=by simp; omega
  generalize h.isB o=b at *
  clear h0 h1
  go_enter Tryz.func63,Tryz.ntmps63
  go_wp2_with fail
  refine HI.out.mono ?_
  rintro e w1 ⟨rfl,rfl⟩
  go_wp2_with fail
  go_ret
  exact⟨by rw [HF.out]; rfl,rfl⟩
set_option maxHeartbeats 2000000 in
set_option maxRecDepth 100000 in
theorem rheader_any (o:Nat) (ho:o<4294967296) (hd:h.hdAt (o / 2)):
 Calls Tryz.prog 103 #[ptr p.g,.int .u32 o] w (Told (h.hd (o / 2)).val w):=by
 have hb0:∀ o,Below w.heap.size w (w.alloc o):=fun o=>(Below.refl _ _).alloc (Nat.le_refl _) _
 have B0:=R.1.alloc (.cells #[.int .i64 0,.int .i64 0,.int .i64 0,.int .u32 0,.int .u32 0] 137)
 have R':=R.below (hb0 (.cells #[.int .i64 0,.int .i64 0,.int .i64 0,.int .u32 0,.int .u32 0] 137))
 have c1:=R'.c1
 have hroom:=f.room
 have hhi:=f.hi
 have hd1:=hd.1
 have hd2:=hd.2
 have hw0:=R'.word (i:=o / 2) (by omega)
 have hw1:=R'.word (i:=o / 2+1) (by omega)
 have hw2:=R'.word (i:=o / 2+2) (by omega)
 have HU:=Lib.hid (fun w=>runpack_any (h.w (o / 2)) (h.w (o / 2+1)) (h.w (o / 2+2)) (f.word _) (f.word _) (f.word _) w)
 have HV:=Lib.hid (show unpackV (h.w (o / 2)) (h.w (o / 2+1)) (h.w (o / 2+2)) = .tuple #[(h.hd (o / 2)).val,.bool true] by unfold unpackV; rw [hd2]; rfl)
 rw [HV.out] at HU
 change _=some (Value.int .u32 ((h.w (o / 2):Nat):Int)) at hw0
 change _=some (Value.int .u32 ((h.w (o / 2+1):Nat):Int)) at hw1
 change _=some (Value.int .u32 ((h.w (o / 2+2):Nat):Int)) at hw2
 have hq:((o:Int) / 2)=((o / 2:Nat):Int):=by omega
 have HX:=Lib.hid (show (h.hd (o / 2)).val = .agg #[.int .i64 (h.hd (o / 2)).size,.int .i64 (h.hd (o / 2)).fmt,.int .i64 (h.hd (o / 2)).spare,.int .u32 (h.hd (o / 2)).cls,.int .u32 (h.hd (o / 2)).ser] from rfl)
 generalize o / 2=q at *
 generalize h.w q=x0 at *
 generalize h.w (q+1)=x1 at *
 generalize h.w (q+2)=x2 at *
 have hlt0:(q:Int)<(h.words.length:Int):=by omega
 have hlt1:(q:Int)+1<(h.words.length:Int):=by omega
 have hlt2:(q:Int)+2<(h.words.length:Int):=by omega
 have e1:IntKind.i64.wrap ((q:Int)+1)=(q:Int)+1:=IntWalk.i64_in _ (by omega)
 have e2:IntKind.i64.wrap ((q:Int)+2)=(q:Int)+2:=IntWalk.i64_in _ (by omega)
 have p1:0≤(q:Int)+1:=by omega
 have p2:0≤(q:Int)+2:=by omega
 have t1:((q:Int)+1).toNat=q+1:=by omega
 have t2:((q:Int)+2).toNat=q+2:=by omega
 have hg0:=R.1.lt
 clear R R' hd hd1 hd2 hb0 HV
 generalize h.hd q=x at *
 unfold ptr
 go_enter Tryz.func103,Tryz.ntmps103
 go_wp2_with fail
 generalize hW:w.alloc _=W
 rw [hW] at c1 hw0 hw1 hw2 B0
 have hbW:Below w.heap.size w W:=by rw [← hW]; exact (Below.refl _ _).alloc (Nat.le_refl _) _
 have BR:Blk W w.heap.size 137 #[.int .i64 0,.int .i64 0,.int .i64 0,.int .u32 0,.int .u32 0]:=by rw [← hW]; exact Blk.new _ _ _
 clear hW B0
 have KC:=Lib.hid (show ∀ W',Below W.heap.size W W'→W'.cell? ⟨p.g,1,none⟩=some (.slice (some ⟨p.gw,0,none⟩) h.words.length p.cw)∧W'.cell? ⟨p.gw,q,none⟩=some (.int .u32 (x0:Int))∧W'.cell? ⟨p.gw,q+1,none⟩=some (.int .u32 (x1:Int))∧W'.cell? ⟨p.gw,q+2,none⟩=some (.int .u32 (x2:Int)) from fun W' hb=>
  ⟨(hb.cell (World.block_lt_of_cell? _ _ c1)).trans c1,(hb.cell (World.block_lt_of_cell? _ _ hw0)).trans hw0,(hb.cell (World.block_lt_of_cell? _ _ hw1)).trans hw1,(hb.cell (World.block_lt_of_cell? _ _ hw2)).trans hw2⟩)
 have HUA:=Lib.hid (show Calls Tryz.prog 142 #[.agg #[.int .u32 x0,.int .u32 x1,.int .u32 x2]] W.drew fun e w1=>e = .returned (.tuple #[.agg #[.int .i64 x.size,.int .i64 x.fmt,.int .i64 x.spare,.int .u32 x.cls,.int .u32 x.ser],.bool true])∧Below W.heap.size W w1 from
  by rw [← HX.out]; exact (HU.out _).mono fun _ _ ⟨h1,h2⟩=>⟨h1,below_top (below_drew (Below.refl _ _)) h2⟩)
 have HUB:=Lib.hid (show Calls Tryz.prog 142 #[.agg #[.int .u32 x0,.int .u32 x1,.int .u32 x2]] (W.alloc (.cells #[.int .i64 0,.int .i64 0,.int .i64 0,.int .u32 0,.int .u32 0] 137)).drew fun e w1=>e = .returned (.tuple #[.agg #[.int .i64 x.size,.int .i64 x.fmt,.int .i64 x.spare,.int .u32 x.cls,.int .u32 x.ser],.bool true])∧Below W.heap.size W w1∧Blk w1 W.heap.size 137 #[.int .i64 0,.int .i64 0,.int .i64 0,.int .u32 0,.int .u32 0] from
  by rw [← HX.out]; exact (HU.out _).mono fun _ _ ⟨h1,h2⟩=>⟨h1,below_top (below_drew (below_alloc1 (Below.refl _ _))) h2,((Blk.new W _ _).drew).below h2 (by simp [World.drew])⟩)
 have hb0:=Below.refl W.heap.size W
 have hn1:W.heap.size≠p.gw:=by have:=World.block_lt_of_cell? _ _ hw0; simp only at this; omega
 have hn2:W.heap.size≠p.g:=by have:=World.block_lt_of_cell? _ _ c1; simp only at this; omega
 go_cut [6] (fun v wx=>∃ g,v=ptr g∧Below W.heap.size W wx∧Blk wx g 137 #[.int .i64 x.size,.int .i64 x.fmt,.int .i64 x.spare,.int .u32 x.cls,.int .u32 x.ser]∧W.heap.size≤g)
 case first=>
  go_region_held3 (fun w'=>w'.cell? ⟨p.g,1,none⟩=some (.slice (some ⟨p.gw,0,none⟩) h.words.length p.cw)∧w'.cell? ⟨p.gw,q,none⟩=some (.int .u32 (x0:Int))∧w'.cell? ⟨p.gw,q+1,none⟩=some (.int .u32 (x1:Int))∧w'.cell? ⟨p.gw,q+2,none⟩=some (.int .u32 (x2:Int)))
   (first | with_reducible exact KC.out _ hb0 | with_reducible exact KC.out _ (Below.drew hb0) | with_reducible exact KC.out _ (below_alloc1 hb0) | with_reducible exact KC.out _ (Below.drew (below_alloc1 hb0)) | with_reducible exact KC.out _ hk | with_reducible exact KC.out _ (below_alloc1 hk) | with_reducible exact KC.out _ (below_set5 hk (Nat.le_refl _)))
   (first
     | (go_at_call 142; (with_reducible refine HUA.out.mono ?_); rintro e w1 ⟨rfl,hk⟩)
     | (go_at_call 142; (with_reducible refine HUB.out.mono ?_); rintro e w1 ⟨rfl,hk,hB6⟩; obtain⟨g0,g1,g2,g3,g4⟩:=hB6.cells5; have hgz:=hB6.fz; have hgl:=hB6.lt))
  all_goals go_wp2_with fail
  all_goals go_meet
  ·exact ⟨_,rfl,below_alloc1 hk,Blk.new _ _ _,hk.size⟩
  ·exact ⟨_,rfl,below_set5 hk (Nat.le_refl _),hB6.setAll5 _ _ _ _ _,Nat.le_refl _⟩
 case rest=>
  obtain⟨gx,rfl,hbc,BX,hgx⟩:=hcut
  have BR':=BR.below hbc BR.lt
  have hb:=hbW.trans (hbc.mono hbW.size)
  clear KC HUA HUB hb0 hbc HU hw0 hw1 hw2 c1 BR
  obtain⟨d0,d1,d2,d3,d4⟩:=BR'.cells5
  obtain⟨b0,b1,b2,b3,b4⟩:=BX.cells5
  have z1:=BR'.fz
  have hz:=BR'.lt
  unfold ptr
  go_wp2_with fail
  refine bodyPost_ret (v:=.agg #[.int .i64 x.size,.int .i64 x.fmt,.int .i64 x.spare,.int .u32 x.cls,.int .u32 x.ser]) (by simp [results,Tryz.results103,go_sem,d0,d1,d2,d3,d4]) rfl ⟨by rw [HX.out],?_⟩
  exact (((((hb.setCell (by simp) _).setCell (by simp) _).setCell (by simp) _).setCell (by simp) _).setCell (by simp) _)
end
end
section
open Go.RowKit
def HM.placeV (h:HM) (o:Nat) (i:Int) (F:Nat) (fs:List Nat):Value:=
 .tuple #[.int .i64 ((if h.lookE o i fs=0 then o / 2+3+(if F=2 then i.toNat / 4 else i.toNat) else 0:Nat):Int),.int .i64 (h.lookE o i fs)]
theorem fld1:∀ (a b c d e:Value) (w:World),(Instr.field 137 (.agg #[a,b,c,d,e]) 1).run Tryz.prog w = .ok b w:=fun a b c d e w=>by kernel_rfl
theorem fld0:∀ (a b c d e:Value) (w:World),(Instr.field 137 (.agg #[a,b,c,d,e]) 0).run Tryz.prog w = .ok a w:=fun a b c d e w=>by kernel_rfl
theorem contains_cases {F t:Nat} {fs:List Nat} (hf:(F=1∧fs=[1,4])∨(F=2∧fs=[2])∨(F=3∧fs=[3])):
 (fs.contains t=true∧t=F)∨(fs.contains t=true∧t≠F∧t=4∧F=1)∨(fs.contains t=false∧t≠F∧t≠4)∨(fs.contains t=false∧t≠F∧t=4∧F≠1):=by
 rcases hf with ⟨rfl,rfl⟩ | ⟨rfl,rfl⟩ | ⟨rfl,rfl⟩
 ·by_cases h1:t=1
  ·subst h1; exact .inl ⟨by decide,rfl⟩
  ·by_cases h4:t=4
   ·subst h4; exact .inr (.inl ⟨by decide,by decide,rfl,rfl⟩)
   ·exact .inr (.inr (.inl ⟨by simp [h1,h4],h1,h4⟩))
 ·by_cases h1:t=2
  ·subst h1; exact .inl ⟨by decide,rfl⟩
  ·by_cases h4:t=4
   ·subst h4; exact .inr (.inr (.inr ⟨by decide,by decide,rfl,by decide⟩))
   ·exact .inr (.inr (.inl ⟨by simp [h1],h1,h4⟩))
 ·by_cases h1:t=3
  ·subst h1; exact .inl ⟨by decide,rfl⟩
  ·by_cases h4:t=4
   ·subst h4; exact .inr (.inr (.inr ⟨by decide,by decide,rfl,by decide⟩))
   ·exact .inr (.inr (.inl ⟨by simp [h1],h1,h4⟩))
theorem hd_parts {h:HM} (f:h.Fit) (i:Nat) (hi:h.hdAt i):(h.hd i).len<4294967296∧((h.hd i).fmt=2→(h.hd i).spare≤4*(h.hd i).size)∧(h.hd i).size<16777216∧(h.hd i).fmt<8∧(h.hd i).spare<4:=by
 have hx:=HM.hd_fit f i
 refine⟨?_,hi.sane,hx.size,hx.fmt,hx.spare⟩
 have:=hx.size
 unfold Hd.len
 split <;> omega
section
variable {w:World} {p:HP} {h:HM} (R:RAt w p h) (f:h.Fit) (o:Nat) (ho:o<4294967296)
include R f ho
theorem rlen_any (hd:h.hdAt (o / 2)):Calls Tryz.prog 101 #[ptr p.g,.int .u32 o] w (Told (.int .i64 (h.hd (o / 2)).len) w):=by
 have HH:=Lib.hid (rheader_any R f o ho hd)
 obtain⟨h1,h2,h3,h4,h5⟩:=hd_parts f _ hd
 have HX:=Lib.hid (show (h.hd (o / 2)).val = .agg #[.int .i64 (h.hd (o / 2)).size,.int .i64 (h.hd (o / 2)).fmt,.int .i64 (h.hd (o / 2)).spare,.int .u32 (h.hd (o / 2)).cls,.int .u32 (h.hd (o / 2)).ser] from rfl)
 clear hd
 generalize h.hd (o / 2)=x at *
 unfold ptr at HH ⊢
 by_cases hf:x.fmt=2
 ·have HL:=Lib.hid (show ((x.len:Nat):Int)=4*(x.size:Int)-x.spare by have:=h2 hf; unfold Hd.len; rw [if_pos hf]; omega)
  have hq:((x.fmt:Int) == 2)=true:=by simp; omega
  clear h2 hf h1
  go_enter Tryz.func101,Tryz.ntmps101
  go_wp2_with fail
  refine HH.out.mono ?_
  rintro e w1 ⟨rfl,hb1⟩
  rw [HX.out]
  go_wp2_with fail
  go_ret
  exact⟨by rw [HL.out]; rfl,hb1.alloc hb1.size _⟩
 ·have HL:=Lib.hid (show x.len=x.size by unfold Hd.len; rw [if_neg hf])
  have hq:((x.fmt:Int) == 2)=false:=by simp; omega
  clear h2 hf h1
  go_enter Tryz.func101,Tryz.ntmps101
  go_wp2_with fail
  refine HH.out.mono ?_
  rintro e w1 ⟨rfl,hb1⟩
  rw [HX.out]
  go_wp2_with fail
  go_ret
  exact⟨by rw [HL.out]; rfl,hb1.alloc hb1.size _⟩
set_option maxRecDepth 100000 in
set_option maxHeartbeats 2000000 in
theorem rplace_any (hh:h.Heads) (i:Int) (F:Nat) (fs:List Nat) (hF:(F=1∧fs=[1,4])∨(F=2∧fs=[2])∨(F=3∧fs=[3])) (hi1:i≤9223372036854775807):
 Calls Tryz.prog 62 #[ptr p.g,.int .u32 o,.int .i64 F,.int .i64 i] w (Told (h.placeV o i F fs) w):=by
 have HI:=Lib.hid (ris_any R f o ho)
 have hfl:=fld1
 cases hi:h.isB o
 ·have HV:=Lib.hid (show h.placeV o i F fs = .tuple #[.int .i64 0,.int .i64 3] by simp [HM.placeV,HM.lookE,hi])
  rw [hi] at HI
  clear hi hF
  unfold ptr at HI ⊢
  go_enter Tryz.func62,Tryz.ntmps62
  go_wp2_with fail
  refine HI.out.mono ?_
  rintro e w1 ⟨rfl,rfl⟩
  go_wp2_with fail
  go_ret2
  exact⟨by rw [HV.out]; rfl,Below.refl _ _⟩
 ·have hd:=HM.isB_hd hh hi
  have HH:=Lib.hid (rheader_any R f o ho hd)
  have HL:=Lib.hid (fun w' (hb:Below w.heap.size w w')=>rlen_any (R.below hb) f o ho hd)
  obtain⟨g1,g2,g3,g4,g5⟩:=hd_parts f _ hd
  have HE:=Lib.hid (show h.lookE o i fs=if fs.contains (h.hd (o / 2)).fmt=false then 21 else if i<0∨((h.hd (o / 2)).len:Int)≤i then 1 else 0 by simp [HM.lookE,hi])
  have HV:=Lib.hid (show h.placeV o i F fs = .tuple #[.int .i64 ((if h.lookE o i fs=0 then o / 2+3+(if F=2 then i.toNat / 4 else i.toNat) else 0:Nat):Int),.int .i64 (h.lookE o i fs)] from rfl)
  rw [HE.out] at HV
  rw [hi] at HI
  have HX:=Lib.hid (show (h.hd (o / 2)).val = .agg #[.int .i64 (h.hd (o / 2)).size,.int .i64 (h.hd (o / 2)).fmt,.int .i64 (h.hd (o / 2)).spare,.int .u32 (h.hd (o / 2)).cls,.int .u32 (h.hd (o / 2)).ser] from rfl)
  have hcc:=contains_cases (t:=(h.hd (o / 2)).fmt) hF
  have hF3:F≤3:=by omega
  clear hd hi HE g2 hF hh
  have hq:((o:Int) / 2)=((o / 2:Nat):Int):=by omega
  have hq2:o / 2<2147483648:=by omega
  generalize h.hd (o / 2)=x at *
  generalize o / 2=q at *
  unfold ptr at HI HH HL ⊢
  rw [HX.out] at HH
  have bad:∀ (t4:Prop),(fs.contains x.fmt=false∧x.fmt≠F∧t4)→Hid (h.placeV o i F fs = .tuple #[.int .i64 0,.int .i64 21]):=fun _ ⟨hc,_,_⟩=>Lib.hid (by rw [HV.out,hc]; simp)
  have good:fs.contains x.fmt=true→Hid (h.placeV o i F fs = .tuple #[.int .i64 ((if (if i<0∨(x.len:Int)≤i then 1 else 0)=0 then q+3+(if F=2 then i.toNat / 4 else i.toNat) else 0:Nat):Int),.int .i64 ((if i<0∨(x.len:Int)≤i then 1 else 0:Nat):Int)]):=fun hc=>Lib.hid (by rw [HV.out,hc]; simp)
  have fin:fs.contains x.fmt=true→((((x.fmt:Int) != F)=false)∨(((x.fmt:Int) != F)=true∧((x.fmt:Int) != 4)=false∧((F:Int) != 1)=false))→
   Calls Tryz.prog 62 #[.pointer (some ⟨p.g,0,none⟩),.int .u32 o,.int .i64 F,.int .i64 i] w (Told (h.placeV o i F fs) w):=by
   intro hc ht
   have HG:=good hc
   clear good bad HV hcc hc
   by_cases hneg:i<0
   ·have HP:=Lib.hid (show h.placeV o i F fs = .tuple #[.int .i64 0,.int .i64 1] by rw [HG.out,show (if i<0∨(x.len:Int)≤i then 1 else 0)=1 from if_pos (Or.inl hneg)]; simp)
    clear HG
    have hd:decide (i<0)=true:=by simpa using hneg
    rcases ht with ht | ⟨ht,ht2,ht3⟩
    all_goals
     go_enter Tryz.func62,Tryz.ntmps62
     go_wp2_with fail
     refine HI.out.mono ?_
     rintro e w1 ⟨rfl,rfl⟩
     go_wp2_with fail
     refine HH.out.mono ?_
     rintro e w1 ⟨rfl,hb1⟩
     go_wp2_with fail
     go_ret2
     exact⟨by rw [HP.out]; rfl,hb1⟩
   ·have hd:decide (i<0)=false:=by simpa using hneg
    by_cases hge:(x.len:Int)≤i
    ·have HP:=Lib.hid (show h.placeV o i F fs = .tuple #[.int .i64 0,.int .i64 1] by rw [HG.out,show (if i<0∨(x.len:Int)≤i then 1 else 0)=1 from if_pos (Or.inr hge)]; simp)
     clear HG
     have hd2:decide ((x.len:Int)≤i)=true:=by simpa using hge
     rcases ht with ht | ⟨ht,ht2,ht3⟩
     all_goals
      go_enter Tryz.func62,Tryz.ntmps62
      go_wp2_with fail
      refine HI.out.mono ?_
      rintro e w1 ⟨rfl,rfl⟩
      go_wp2_with fail
      refine HH.out.mono ?_
      rintro e w1 ⟨rfl,hb1⟩
      go_wp2_with fail
      refine (HL.out _ hb1).mono ?_
      rintro e w2 ⟨rfl,hb2⟩
      go_wp2_with fail
      go_ret2
      exact⟨by rw [HP.out]; rfl,below_top hb1 hb2⟩
    ·have hd2:decide ((x.len:Int)≤i)=false:=by simpa using hge
     obtain⟨k,rfl⟩:=Int.eq_ofNat_of_zero_le (by omega:0≤i)
     have HP:=Lib.hid (show h.placeV o k F fs = .tuple #[.int .i64 ((q+3+(if F=2 then k / 4 else k):Nat):Int),.int .i64 0] by rw [HG.out,show (if (k:Int)<0∨(x.len:Int)≤(k:Int) then 1 else 0)=0 from if_neg (by omega)]; simp)
     have hk:k<4294967296:=by omega
     clear HG
     by_cases h2:F=2
     ·have hp2:((F:Int) == 2)=true:=by simp; omega
      rw [if_pos h2] at HP
      clear h2
      rcases ht with ht | ⟨ht,ht2,ht3⟩
      all_goals
       go_enter Tryz.func62,Tryz.ntmps62
       go_wp2_with fail
       refine HI.out.mono ?_
       rintro e w1 ⟨rfl,rfl⟩
       go_wp2_with fail
       refine HH.out.mono ?_
       rintro e w1 ⟨rfl,hb1⟩
       go_wp2_with fail
       refine (HL.out _ hb1).mono ?_
       rintro e w2 ⟨rfl,hb2⟩
       go_wp2_with fail
       go_ret2
       exact⟨by rw [HP.out]; simp,below_top hb1 hb2⟩
     ·have hp2:((F:Int) == 2)=false:=by simp; omega
      rw [if_neg h2] at HP
      clear h2
      rcases ht with ht | ⟨ht,ht2,ht3⟩
      all_goals
       go_enter Tryz.func62,Tryz.ntmps62
       go_wp2_with fail
       refine HI.out.mono ?_
       rintro e w1 ⟨rfl,rfl⟩
       go_wp2_with fail
       refine HH.out.mono ?_
       rintro e w1 ⟨rfl,hb1⟩
       go_wp2_with fail
       refine (HL.out _ hb1).mono ?_
       rintro e w2 ⟨rfl,hb2⟩
       go_wp2_with fail
       go_ret2
       exact⟨by rw [HP.out]; simp,below_top hb1 hb2⟩
  rcases hcc with ⟨hc,he⟩ | ⟨hc,h1,h4,hF1⟩ | ⟨hc,h1,h4⟩ | ⟨hc,h1,h4,hF1⟩
  ·exact fin hc (.inl (by simp [he]))
  ·exact fin hc (.inr ⟨by simp; omega,by simp; omega,by simp; omega⟩)
  ·have HB:=bad _ ⟨hc,h1,h4⟩
   have ht:((x.fmt:Int) != F)=true:=by simp; omega
   have ht2:((x.fmt:Int) != 4)=true:=by simp; omega
   clear bad good fin HV hc h1 h4
   go_enter Tryz.func62,Tryz.ntmps62
   go_wp2_with fail
   refine HI.out.mono ?_
   rintro e w1 ⟨rfl,rfl⟩
   go_wp2_with fail
   refine HH.out.mono ?_
   rintro e w1 ⟨rfl,hb1⟩
   go_wp2_with fail
   go_ret2
   exact⟨by rw [HB.out]; rfl,hb1⟩
  ·have HB:=bad _ ⟨hc,h1,trivial⟩
   have ht:((x.fmt:Int) != F)=true:=by simp; omega
   have ht2:((x.fmt:Int) != 4)=false:=by simp; omega
   have ht3:((F:Int) != 1)=true:=by simp; omega
   clear bad good fin HV hc h1 h4 hF1
   go_enter Tryz.func62,Tryz.ntmps62
   go_wp2_with fail
   refine HI.out.mono ?_
   rintro e w1 ⟨rfl,rfl⟩
   go_wp2_with fail
   refine HH.out.mono ?_
   rintro e w1 ⟨rfl,hb1⟩
   go_wp2_with fail
   go_ret2
   exact⟨by rw [HB.out]; rfl,hb1⟩
end
end
end Go.Proofs.YtdoahpflemgaeaaGreatDoor
