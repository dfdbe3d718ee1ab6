import Derived.Test.YtdoahpflemgaeaaGreatDoorJRefG
import Derived.Test.YtdoahpflemgaeaaGreatDoorJLive
import Derived.Test.YtdoahpflemgaeaaGreatDoorJMem
import Derived.RegionTactic
import Derived.Deep.RegionHeld3
set_option linter.unusedVariables false
set_option linter.unusedSimpArgs false
set_option linter.unusedSectionVars false
namespace Go.Proofs.YtdoahpflemgaeaaGreatDoor
section
open Go.RowKit
end
section
open Go.RowKit
structure StepR (f:BS→BS) (h h':HM):Prop where
 le:h.words.length≤h'.words.length
 yes:∀ s,h'.words.length≤s→f (h.res s,0)=(h'.res s,0)
 no:∀ s,h.words.length≤s→s<h'.words.length→(f (h.res s,0)).2=4
theorem StepR.id {f:BS→BS} {h:HM} (e:∀ s,f (h.res s,0)=(h.res s,0)):StepR f h h:=⟨Nat.le_refl _,fun s _=>e s,fun s h1 h2=>by omega⟩
def Keeps (f:BS→BS):Prop:=∀ h e,e≠0→(f (h,e)).2=e
theorem StepR.comp {f g:BS→BS} {a b c:HM} (F:StepR f a b) (H:StepR g b c) (K:Keeps g):StepR (fun s=>g (f s)) a c:=
 ⟨Nat.le_trans F.le H.le,fun s hs=>by
   show g (f (a.res s,0))=_
   rw [F.yes s (Nat.le_trans H.le hs),H.yes s hs],fun s h1 h2=>by
   show (g (f (a.res s,0))).2=4
   by_cases e:b.words.length≤s
   ·rw [F.yes s e]
    exact H.no s e h2
   ·have d:=F.no s h1 (by omega)
    have:=K (f (a.res s,0)).1 (f (a.res s,0)).2 (by rw [d]; decide)
    rw [show ((f (a.res s,0)).1,(f (a.res s,0)).2)=f (a.res s,0) from rfl] at this
    rw [this,d]⟩
theorem keeps_comp {f g:BS→BS} (F:Keeps f) (G:Keeps g):Keeps (fun s=>g (f s)):=fun h e he=>by
 show (g (f (h,e))).2=e
 have d:=F h e he
 have:=G (f (h,e)).1 (f (h,e)).2 (by rw [d]; exact he)
 rw [show ((f (h,e)).1,(f (h,e)).2)=f (h,e) from rfl] at this
 rw [this,d]
theorem keeps_fold {α:Type} {f:BS→α→BS} (l:List α) (K:∀ x,Keeps (fun s=>f s x)):Keeps (fun s=>l.foldl f s):=by
 induction l with
 | nil=>exact fun h e _=>rfl
 | cons x l ih=>exact keeps_comp (f:=fun s=>f s x) (K x) ih
theorem keeps_bRoot (i n:Nat):Keeps (fun s=>bRoot s i n):=fun h e he=>by
 show (bRoot (h,e) i n).2=e
 unfold bRoot bAlloc
 rw [if_pos he]
end
section
open Go.RowKit
theorem stepR_bRoot {h h':HM} {i n:Nat} (e:bRoot (h,0) i n=(h',0)):StepR (fun s=>bRoot s i n) h h':=by
 have key:∀ g:HM,bRoot (g,0) i n=((g.AllocH 0 1 n).setRootH i (g.AllocO 0 1 n),g.AllocE 0 1 n):=fun g=>rfl
 rw [key] at e
 injection e with e1 e2
 have hi:=fun s=>res_Alloc e2 s
 have hl:h'.words.length=h.words.length+3+(n:Int).toNat:=by rw [← e1,setRoot_len,(hi 0).1]
 refine⟨by omega,fun s h2=>?_,fun s h2 h3=>?_⟩
 ·show bRoot (h.res s,0) i n=_
  obtain⟨a1,a2⟩:=(hi s).2.1 (by omega)
  have a3:(h.res s).AllocO 0 1 n=h.AllocO 0 1 n:=by unfold HM.AllocO; rw [a1,e2]; rfl
  rw [key,a2,a3,a1,res_setRoot,e1]
 ·show (bRoot (h.res s,0) i n).2=4
  rw [key]
  exact ((hi s).2.2 (by omega)).1
theorem stepR_fold {α:Type} {f:BS→α→BS} (K:∀ x,Keeps (fun s=>f s x)) (S:∀ x h h',f (h,0) x=(h',0)→StepR (fun s=>f s x) h h'):
 ∀ (l:List α) (h h':HM),l.foldl f (h,0)=(h',0)→StepR (fun s=>l.foldl f s) h h'
 | [],h,h',e=>by
   injection e with e _
   subst e
   exact StepR.id fun s=>rfl
 | x :: l,h,h',e=>by
   rw [List.foldl_cons] at e
   have e0:(f (h,0) x).2=0:=Classical.byContradiction fun q=>by
    have d:=keeps_fold l K (f (h,0) x).1 (f (h,0) x).2 q
    rw [show ((f (h,0) x).1,(f (h,0) x).2)=f (h,0) x from rfl] at d
    have d2:(l.foldl f (f (h,0) x)).2=0:=by rw [e]
    exact q (d.symm.trans d2)
   have e1:f (h,0) x=((f (h,0) x).1,0):=Prod.ext rfl e0
   rw [e1] at e
   exact StepR.comp (S x h _ e1) (stepR_fold K S l _ h' e) (keeps_fold l K)
end
section
open Go.RowKit
set_option maxHeartbeats 1000000 in
theorem sameWords_any (A A':Option Addr) (n n' c c':Nat) (xs ys:List Nat) (w:World) (hn:n≤9223372036854775807) (hn':n'≤9223372036854775807) (hr:Reads w w.heap.size 1 A n (u32s xs)) (hr':Reads w w.heap.size 1 A' n' (u32s ys)):
 Calls Tryz.prog 32 #[.slice A n c,.slice A' n' c'] w (Told (.bool (sameL xs ys)) w):=by
 have hl:xs.length=n:=by have:=hr.1; rw [u32s_len] at this; omega
 have hl':ys.length=n':=by have:=hr'.1; rw [u32s_len] at this; omega
 have HL:=Lib.hid hl; have HL':=Lib.hid hl'
 clear hl hl'
 have HR:=Lib.hid hr; have HR':=Lib.hid hr'
 clear hr hr'
 by_cases hnn:n=n'
 ·subst hnn
  go_enter Tryz.func32,Tryz.ntmps32
  go_wp2_with fail
  go_loopw [5] (fun i wr=>∃ k:Nat,k≤n∧i = .int .i64 k∧xs.take k=ys.take k∧Below w.heap.size w wr) (fun i _=>n-(intOf i).toNat)
  case atStart=>exact⟨0,by omega,rfl,rfl,Below.refl _ _⟩
  case round=>
   obtain⟨k,hk,rfl,ht,hb⟩:=hrel
   have HT:=Lib.hid ht; clear ht
   by_cases hlt:k<n
   ·have hx:k<xs.length:=by rw [HL.out]; exact hlt
    have hy:k<ys.length:=by rw [HL'.out]; exact hlt
    obtain⟨ad,u,rfl,hbl,hu,hc⟩:=(HR.out.below hb).at_ hlt
    obtain⟨ad',u',rfl,hbl',hu',hc'⟩:=(HR'.out.below hb).at_ hlt
    rw [u32s_get hx] at hu
    rw [u32s_get hy] at hu'
    injection hu with hu
    injection hu' with hu'
    subst hu hu'
    have HX:=Lib.hid hx; have HY:=Lib.hid hy
    clear hx hy
    by_cases he:xs.getD k 0=ys.getD k 0
    ·have HE:=Lib.hid (take_eq_succ HX.out HY.out he HT.out)
     have hv:((xs.getD k 0:Int) != (ys.getD k 0:Int))=false:=by rw [he]; simp
     clear he
     generalize xs.getD k 0=x at *
     generalize ys.getD k 0=y at *
     go_wp2_with fail
     go_region
     all_goals go_wp2_with fail
     all_goals go_roundw
     case rel=>exact⟨k+1,by omega,by go_num,HE.out,below_drew hb⟩
     case measure=>simp [intOf]; omega
    ·have HE:=Lib.hid (sameL_at HX.out HY.out he)
     have hv:((xs.getD k 0:Int) != (ys.getD k 0:Int))=true:=by rw [bne_iff_ne]; omega
     clear he
     generalize xs.getD k 0=x at *
     generalize ys.getD k 0=y at *
     go_wp2_with fail
     go_region
     all_goals go_wp2_with fail
     all_goals go_ret
     all_goals exact⟨by rw [HE.out]; rfl,below_drew hb⟩
   ·obtain rfl:k=n:=by omega
    have HA:=Lib.hid (sameL_all HL.out HL'.out HT.out)
    go_wp2_with fail
    go_ret
    exact⟨by rw [HA.out]; rfl,hb⟩
 ·have HF:=Lib.hid (sameL_len (xs:=xs) (ys:=ys) (by rw [HL.out,HL'.out]; exact hnn))
  have hv:((n:Int) != (n':Int))=true:=by simp; omega
  clear hnn
  go_enter Tryz.func32,Tryz.ntmps32
  go_wp2_with fail
  go_ret
  exact⟨by rw [HF.out]; rfl,Below.refl _ _⟩
set_option maxHeartbeats 1000000 in
theorem sameOops_any (A A':Option Addr) (n n' c c':Nat) (xs ys:List Nat) (w:World) (hn:n≤9223372036854775807) (hn':n'≤9223372036854775807) (hr:Reads w w.heap.size 1 A n (u32s xs)) (hr':Reads w w.heap.size 1 A' n' (u32s ys)):
 Calls Tryz.prog 34 #[.slice A n c,.slice A' n' c'] w (Told (.bool (sameL xs ys)) w):=by
 have hl:xs.length=n:=by have:=hr.1; rw [u32s_len] at this; omega
 have hl':ys.length=n':=by have:=hr'.1; rw [u32s_len] at this; omega
 have HL:=Lib.hid hl; have HL':=Lib.hid hl'
 clear hl hl'
 have HR:=Lib.hid hr; have HR':=Lib.hid hr'
 clear hr hr'
 by_cases hnn:n=n'
 ·subst hnn
  go_enter Tryz.func34,Tryz.ntmps34
  go_wp2_with fail
  go_loopw [5] (fun i wr=>∃ k:Nat,k≤n∧i = .int .i64 k∧xs.take k=ys.take k∧Below w.heap.size w wr) (fun i _=>n-(intOf i).toNat)
  case atStart=>exact⟨0,by omega,rfl,rfl,Below.refl _ _⟩
  case round=>
   obtain⟨k,hk,rfl,ht,hb⟩:=hrel
   have HT:=Lib.hid ht; clear ht
   by_cases hlt:k<n
   ·have hx:k<xs.length:=by rw [HL.out]; exact hlt
    have hy:k<ys.length:=by rw [HL'.out]; exact hlt
    obtain⟨ad,u,rfl,hbl,hu,hc⟩:=(HR.out.below hb).at_ hlt
    obtain⟨ad',u',rfl,hbl',hu',hc'⟩:=(HR'.out.below hb).at_ hlt
    rw [u32s_get hx] at hu
    rw [u32s_get hy] at hu'
    injection hu with hu
    injection hu' with hu'
    subst hu hu'
    have HX:=Lib.hid hx; have HY:=Lib.hid hy
    clear hx hy
    by_cases he:xs.getD k 0=ys.getD k 0
    ·have HE:=Lib.hid (take_eq_succ HX.out HY.out he HT.out)
     have hv:((xs.getD k 0:Int) != (ys.getD k 0:Int))=false:=by rw [he]; simp
     clear he
     generalize xs.getD k 0=x at *
     generalize ys.getD k 0=y at *
     go_wp2_with fail
     go_region
     all_goals go_wp2_with fail
     all_goals go_roundw
     case rel=>exact⟨k+1,by omega,by go_num,HE.out,below_drew hb⟩
     case measure=>simp [intOf]; omega
    ·have HE:=Lib.hid (sameL_at HX.out HY.out he)
     have hv:((xs.getD k 0:Int) != (ys.getD k 0:Int))=true:=by rw [bne_iff_ne]; omega
     clear he
     generalize xs.getD k 0=x at *
     generalize ys.getD k 0=y at *
     go_wp2_with fail
     go_region
     all_goals go_wp2_with fail
     all_goals go_ret
     all_goals exact⟨by rw [HE.out]; rfl,below_drew hb⟩
   ·obtain rfl:k=n:=by omega
    have HA:=Lib.hid (sameL_all HL.out HL'.out HT.out)
    go_wp2_with fail
    go_ret
    exact⟨by rw [HA.out]; rfl,hb⟩
 ·have HF:=Lib.hid (sameL_len (xs:=xs) (ys:=ys) (by rw [HL.out,HL'.out]; exact hnn))
  have hv:((n:Int) != (n':Int))=true:=by simp; omega
  clear hnn
  go_enter Tryz.func34,Tryz.ntmps34
  go_wp2_with fail
  go_ret
  exact⟨by rw [HF.out]; rfl,Below.refl _ _⟩
end
section
open Go.RowKit
theorem rtop_any {w:World} {q:HP} {h:HM} (R:RAt w q h) (hl:h.words.length≤1048576):Calls Tryz.prog 30 #[.pointer (some ⟨q.g,0,none⟩)] w (Said (.int .i64 (h.words.length:Nat)) w):=by
 have c1:=R.c1
 go_enter Tryz.func30,Tryz.ntmps30
 go_wp2_with fail
 go_ret
 exact⟨rfl,rfl⟩
set_option maxRecDepth 100000 in
set_option maxHeartbeats 4000000 in
theorem like_any {W w:World} {p q:HP} {g:Nat} {h:HM} (L:Live W w p g h) (R:RAt w q h):
 Calls Tryz.prog 8 #[.pointer (some ⟨g,0,none⟩),.pointer (some ⟨q.g,0,none⟩)] w (Told (.bool true) w):=by
 have hf:=L.fit
 have r1:=hf.room
 have r2:=hf.hi
 have hrl:=hf.roots
 have HSZ:=Lib.hid (fun (w1:World) (hb:Below w.heap.size w w1)=>(L.after hb).size)
 have HTP:=Lib.hid (fun (w1:World) (hb:Below w.heap.size w w1)=>(L.after hb).top)
 have HLS:=Lib.hid (fun (w1:World) (hb:Below w.heap.size w w1)=>(L.after hb).last)
 have HWD:=Lib.hid (fun (w1:World) (hb:Below w.heap.size w w1)=>(L.after hb).words)
 have HRT:=Lib.hid (fun (w1:World) (hb:Below w.heap.size w w1)=>(L.after hb).roots)
 have HTQ:=Lib.hid (fun (w1:World) (hb:Below w.heap.size w w1)=>rtop_any (R.below hb) (by omega))
 have HSW:=Lib.hid (fun (w1 w2:World) (hb:Below w.heap.size w w2) (g1 c1:Nat) (r:Row w2 g1 37 c1 (u32s h.words))=>sameWords_any (some ⟨g1,0,none⟩) (some ⟨q.gw,0,none⟩) h.words.length h.words.length c1 q.cw h.words h.words w2 (by omega) (by omega)
  (by have:=r.reads r.lt; rw [u32s_len] at this; exact this) (by have:=(R.below hb).2.1.reads (R.below hb).2.1.lt; rw [u32s_len] at this; exact this))
 have HSO:=Lib.hid (fun (w1 w2:World) (hb:Below w.heap.size w w2) (g1 c1:Nat) (r:Row w2 g1 38 c1 (u32s h.roots))=>sameOops_any (some ⟨g1,0,none⟩) (some ⟨q.gr,0,none⟩) h.roots.length h.roots.length c1 q.cr h.roots h.roots w2 (by omega) (by omega)
  (by have:=r.reads r.lt; rw [u32s_len] at this; exact this) (by have:=(R.below hb).2.2.2.reads (R.below hb).2.2.2.lt; rw [u32s_len] at this; exact this))
 rw [sameL_self] at HSW HSO
 have HC:=Lib.hid (fun (w1:World) (hb:Below w.heap.size w w1)=>(R.below hb).1.cells5)
 obtain⟨c0,c1,c2,c3,c4⟩:=R.1.cells5
 have HL1:=Lib.hid (u32s_len h.words)
 have HL2:=Lib.hid (u32s_len h.roots)
 have hB0:Below w.heap.size w w.drew:=below_drew (Below.refl _ _)
 clear L R hf hrl
 go_enter Tryz.func8,Tryz.ntmps8
 go_wp2_with fail
 go_region_held3 (fun w'=>w'.cell? ⟨q.g,0,none⟩=some (.int .i64 h.size)∧w'.cell? ⟨q.g,1,none⟩=some (.slice (some ⟨q.gw,0,none⟩) h.words.length q.cw)∧w'.cell? ⟨q.g,2,none⟩=some (.slice (some ⟨q.gr,0,none⟩) h.roots.length q.cr)∧w'.cell? ⟨q.g,3,none⟩=some (.int .u32 h.last)∧w'.cell? ⟨q.g,4,none⟩=some (.slice (some ⟨q.gs,0,none⟩) h.starts.length q.cs))
  (first | exact⟨c0,c1,c2,c3,c4⟩ | exact HC.out _ (by assumption) | go_keep)
  (first
    | (go_at_call 28; refine (HSZ.out _ (by assumption)).mono ?_; rintro e w' ⟨rfl,rfl⟩)
    | (go_at_call 29; refine (HTP.out _ (by assumption)).mono ?_; rintro e w' ⟨rfl,rfl⟩)
    | (go_at_call 31; refine (HLS.out _ (by assumption)).mono ?_; rintro e w' ⟨rfl,rfl⟩)
    | (go_at_call 30; refine (HTQ.out _ (by assumption)).mono ?_; rintro e w' ⟨rfl,rfl⟩)
    | (go_at_call 33; refine (HWD.out _ (by assumption)).mono ?_; rintro e w1 ⟨g1,k1,rfl,rw1,-,hb1⟩; rw [HL1.out]; have hB1:=below_top (by assumption) hb1)
    | (go_at_call 35; refine (HRT.out _ (by assumption)).mono ?_; rintro e w3 ⟨g3,k3,rfl,rw3,-,hb3⟩; rw [HL2.out]; have hB3:=below_top (by assumption) hb3)
    | (go_at_call 32; refine (HSW.out w _ (by assumption) _ _ (by assumption)).mono ?_; rintro e w2 ⟨rfl,hb2⟩; have hB2:=below_top (by assumption) hb2)
    | (go_at_call 34; refine (HSO.out w _ (by assumption) _ _ (by assumption)).mono ?_; rintro e w4 ⟨rfl,hb4⟩; have hB4:=below_top (by assumption) hb4))
 all_goals go_wp2_with fail
 all_goals go_ret
 all_goals exact⟨rfl,by assumption⟩
end
end Go.Proofs.YtdoahpflemgaeaaGreatDoor
