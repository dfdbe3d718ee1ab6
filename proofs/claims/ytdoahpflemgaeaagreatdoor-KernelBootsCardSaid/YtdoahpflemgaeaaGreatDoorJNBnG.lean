import Derived.Test.YtdoahpflemgaeaaGreatDoorJNRdH
set_option linter.unusedVariables false
set_option linter.unusedSimpArgs false
set_option linter.unusedSectionVars false
namespace Go.Proofs.YtdoahpflemgaeaaGreatDoor
section
open Go.RowKit
def GX (h:HM):Prop:=∃ l,h.Good l
theorem GX.alloc {h:HM} (g:GX h) (n:Int):GX (h.AllocH 0 1 n):=by obtain⟨l,G⟩:=g; exact G.AllocH 0 1 n (by omega)
theorem GX.root {h:HM} (g:GX h) (i:Int) {v:Nat} (hv:v<4294967296):GX (h.setRootH i v):=by obtain⟨l,G⟩:=g; exact⟨l,G.setRootH i v hv⟩
theorem GX.put {h:HM} (g:GX h) (o:Nat) (i:Int) {v:Nat} (hv:v<4294967296):GX (h.putH o i v):=by obtain⟨l,G⟩:=g; obtain⟨l2,G2,_⟩:=G.putH o i v hv; exact⟨l2,G2⟩
theorem GX.cls {h:HM} (g:GX h) (o:Nat) {v:Nat} (hv:v<4294967296):GX (h.setClassH o v):=by obtain⟨l,G⟩:=g; obtain⟨l2,G2,_⟩:=G.setClassH o v hv; exact⟨l2,G2⟩
theorem GX.rt {h:HM} (g:GX h) (i:Nat):h.rt i<4294967296:=by obtain⟨l,G⟩:=g; exact G.fit.root i
theorem GX.ao {h:HM} (g:GX h) (n:Int):h.AllocO 0 1 n<4294967296:=by obtain⟨l,G⟩:=g; exact AllocO_lt G.fit 0 1 n
theorem gx_droots {s:BS} (g:GX s.1):∀ k,GX (dRootN s k).1
 | 0=>g
 | k+1=>by
   have ih:=gx_droots g k
   rw [dRootN_succ]
   generalize dRootN s k=q at *
   unfold dRootB
   split
   ·exact ih
   split
   ·exact ih
   ·show GX (dRoot1 q.1 k)
    have ho:=ih.ao (sI k:Nat)
    have g1:=(ih.alloc (sI k:Nat)).root (rI k:Nat) ho
    unfold dRoot1
    split
    ·exact ((g1.root (5:Nat) ho).root (7:Nat) ho).root (9:Nat) ho
    ·exact g1
theorem gx_dpairs {s:BS} (g:GX s.1):∀ k,GX (dPairN s k).1.1∧∀ x∈(dPairN s k).2,x<4294967296
 | 0=>⟨g,fun x hx=>(by cases hx)⟩
 | k+1=>by
   obtain⟨i1,i2⟩:=gx_dpairs g k
   rw [dPairN_succ]
   generalize dPairN s k=q at *
   unfold dPairB
   split
   ·exact ⟨i1,i2⟩
   split
   ·exact ⟨i1,i2⟩
   ·refine⟨((i1.alloc 6).alloc 6).root (10+k:Nat) (i1.ao 6),fun x hx=>?_⟩
    rcases List.mem_append.1 hx with q | q
    ·exact i2 x q
    ·rw [List.mem_singleton] at q; rw [q]; exact (i1.alloc 6).ao 6
theorem gx_dwire {ms:List Nat} (hm:∀ i,ms.getD i 0<4294967296) {h:HM} (g:GX h):∀ k,k≤22→GX (dWireN ms h k)
 | 0,_=>g
 | k+1,hk=>by
   have ih:=gx_dwire hm g k (by omega)
   rw [dWireN_succ]
   generalize dWireN ms h k=q at *
   unfold dWireK dWire
   have hf:smN (fmtK (kRow k) k)<4294967296:=by
    have:=kRow_few k (by omega)
    unfold smN fmtK
    split <;> omega
   have hs:(if (kRow k).sup=0 then q.rt 0 else q.rt (kRow k).sup)<4294967296:=by split <;> exact ih.rt _
   have hms:(if (kRow k).sup=0 then q.rt 11 else ms.getD ((kRow k).sup-10) 0)<4294967296:=by
    split
    ·exact ih.rt _
    ·exact hm _
   have g1:=ih.cls (q.rt (10+k)) (hm k)
   exact (((((((g1.cls (ms.getD k 0) (g1.rt 12)).put _ _ (ih.rt 0)).put _ _ hs).put _ _ hf).put _ _ hms).put _ _ (by omega)).put _ _ (ih.rt (10+k)))
theorem gx_dcls {h:HM} (g:GX h):∀ k,GX (dClsN h k)
 | 0=>g
 | k+1=>by
   have ih:=gx_dcls g k
   rw [dClsN_succ]
   unfold dCls1
   split <;> exact ih.cls _ (ih.rt _)
theorem gx_dbones {s:BS} (g:GX s.1):GX (dBones s).1:=by
 have g1:=gx_dpairs (gx_droots g 7) 22
 unfold dBones
 generalize dPairN (dRootN s 7) 22=q at *
 obtain⟨⟨h,e⟩,ms⟩:=q
 simp only at g1 ⊢
 have hm:∀ i,ms.getD i 0<4294967296:=fun i=>by
  rw [List.getD_eq_getElem?_getD]
  cases hq:ms[i]? with
  | none=>simp
  | some x=>exact g1.2 x (List.mem_of_getElem? hq)
 have g2:=gx_dwire hm g1.1 22 (Nat.le_refl _)
 generalize dWireN ms h 22=h2 at *
 have g3:=gx_dcls g2 7
 generalize dClsN h2 7=h3 at *
 split
 ·exact g1.1
 ·exact g3
theorem mk0 (s:BS) (h:s.2=0):∃ A,s=(A,0):=⟨s.1,Prod.ext rfl h⟩
theorem mkQ0 (q:QS) (h:q.1.2=0):∃ A ms,q=((A,0),ms):=⟨q.1.1,q.2,Prod.ext (Prod.ext rfl h) rfl⟩
theorem bonesB_of {s:BS} {A:HM} {e:Nat} (h2:root2 (root1 s 3) 4=(A,e)):bonesB s=bClasses (root3 A 3,e):=by unfold bonesB; rw [h2]
theorem bClasses_of {s:BS} {A:HM} {ms:List Nat} (h:pairsN s 22=((A,0),ms)):bClasses s=(arcN (clsN (wireN ms A 22) 3) 4,0):=by
 rw [bClasses_eq,h]
 exact if_neg (fun q=>q rfl)
theorem bClasses_bad {s:BS} (h:(pairsN s 22).1.2=4):(bClasses s).2=4:=by
 rw [bClasses_eq,if_pos (by rw [h]; decide)]
 exact h
theorem dBones_of {s z:BS} {A:HM} {ms:List Nat} (h1:dRootN s 7=z) (h2:dPairN z 22=((A,0),ms)):dBones s=(dClsN (dWireN ms A 22) 7,0):=by
 unfold dBones
 rw [h1,h2]
 exact if_neg (fun q=>q rfl)
theorem dBones_bad {s z:BS} (h1:dRootN s 7=z) (h:(dPairN z 22).1.2=4):(dBones s).2=4:=by
 unfold dBones
 rw [h1,if_pos (by rw [h]; decide)]
 exact h
theorem pairsN_eq (s:BS) (k:Nat):pairsN s k=(List.range k).foldl fPair (s,[]):=rfl
theorem dPairN_eq (s:BS) (k:Nat):dPairN s k=(List.range k).foldl dPairB (s,[]):=rfl
theorem keeps_pairsN {s:BS} (h:s.2≠0) (k:Nat):(pairsN s k).1.2=s.2:=by
 rw [pairsN_eq]
 exact keepsQ_fold keepsQ_pair (List.range k) (s,[]) h
theorem keeps_dPairN {s:BS} (h:s.2≠0) (k:Nat):(dPairN s k).1.2=s.2:=by
 rw [dPairN_eq]
 exact keepsQ_fold keepsQ_dPair (List.range k) (s,[]) h
theorem stepQ_pairsN (k:Nat) (A:HM) (A4:HM) (ms:List Nat) (h4:pairsN (A,0) k=((A4,0),ms)):A.words.length≤A4.words.length∧(∀ s,A4.words.length≤s→pairsN (A.res s,0) k=((A4.res s,0),ms))∧∀ s,A.words.length≤s→s<A4.words.length→(pairsN (A.res s,0) k).1.2=4:=by
 rw [pairsN_eq] at h4
 have S:=stepQ_fold keepsQ_pair stepQ_pair (List.range k) A [] A4 ms h4
 exact⟨S.le,fun s q=>by rw [pairsN_eq]; exact S.yes s q,fun s q r=>by rw [pairsN_eq]; exact S.no s q r⟩
theorem stepQ_dPairN (k:Nat) (A:HM) (A4:HM) (ms:List Nat) (h4:dPairN (A,0) k=((A4,0),ms)):A.words.length≤A4.words.length∧(∀ s,A4.words.length≤s→dPairN (A.res s,0) k=((A4.res s,0),ms))∧∀ s,A.words.length≤s→s<A4.words.length→(dPairN (A.res s,0) k).1.2=4:=by
 rw [dPairN_eq] at h4
 have S:=stepQ_fold keepsQ_dPair stepQ_dPair (List.range k) A [] A4 ms h4
 exact⟨S.le,fun s q=>by rw [dPairN_eq]; exact S.yes s q,fun s q r=>by rw [dPairN_eq]; exact S.no s q r⟩
theorem stepR_root1 (k:Nat) (A B:HM) (h:root1 (A,0) k=(B,0)):StepR (fun s=>root1 s k) A B:=stepR_fold (f:=fun s (i:Nat)=>bRoot s i 0) (fun x=>keeps_bRoot x 0) (fun x h h' e=>stepR_bRoot e) (List.range k) A B h
theorem stepR_root2 (k:Nat) (A B:HM) (h:root2 (A,0) k=(B,0)):StepR (fun s=>root2 s k) A B:=stepR_fold (f:=fun s (i:Nat)=>bRoot s (arrI i) (szI i)) (fun x=>keeps_bRoot (arrI x) (szI x)) (fun x h h' e=>stepR_bRoot e) (List.range k) A B h
theorem keeps_root2 (k:Nat):Keeps (fun s=>root2 s k):=keeps_fold (f:=fun s (i:Nat)=>bRoot s (arrI i) (szI i)) (List.range k) (fun x=>keeps_bRoot (arrI x) (szI x))
theorem stepR_droots (k:Nat) (A B:HM) (h:dRootN (A,0) k=(B,0)):StepR (fun s=>dRootN s k) A B:=stepR_fold (f:=dRootB) keeps_dRoot stepR_dRoot (List.range k) A B h
theorem resF_root3 (k:Nat):ResF (fun h=>root3 h k):=ResF.fold (f:=fun h (i:Nat)=>h.setRootH (nlI i) (h.rt 0)) (fun x=>resF_setRoot (nlI x) (fun h=>h.rt 0) (fun _ _=>rfl)) (List.range k)
theorem resF_wireN (ms:List Nat) (k:Nat):ResF (fun h=>wireN ms h k):=ResF.fold (f:=fun h (i:Nat)=>bWire ms h (kRow i,i)) (fun x=>resF_wire ms (kRow x,x)) (List.range k)
theorem resF_clsN (k:Nat):ResF (fun h=>clsN h k):=ResF.fold (f:=fun h (i:Nat)=>h.setClassH (h.rt i) (h.rt (13+i))) (fun x=>resF_cls (fun i=>i) (fun i=>13+i) x) (List.range k)
theorem resF_arcN (k:Nat):ResF (fun h=>arcN h k):=ResF.fold (f:=fun h (i:Nat)=>h.setClassH (h.rt (arrI i)) (h.rt 20)) (fun x=>resF_cls arrI (fun _=>20) x) (List.range k)
theorem resF_dWireN (ms:List Nat) (k:Nat):ResF (fun h=>dWireN ms h k):=ResF.fold (f:=dWireK ms) (fun x=>resF_dWire ms x) (List.range k)
theorem resF_dCls1 (x:Nat):ResF (fun h=>dCls1 h x):=fun h s=>by
 show dCls1 (h.res s) x=(dCls1 h x).res s∧(dCls1 h x).words.length=h.words.length
 unfold dCls1
 split
 ·exact resF_cls (fun i=>i) (fun i=>13+i) x h s
 ·exact resF_cls rI (fun _=>20) x h s
theorem resF_dClsN (k:Nat):ResF (fun h=>dClsN h k):=ResF.fold (f:=dCls1) resF_dCls1 (List.range k)
theorem resF_pw (ms:List Nat) (a b c:Nat):ResF (fun h=>arcN (clsN (wireN ms h a) b) c):=((resF_wireN ms a).comp (resF_clsN b)).comp (resF_arcN c)
theorem resF_dw (ms:List Nat) (a b:Nat):ResF (fun h=>dClsN (dWireN ms h a) b):=(resF_dWireN ms a).comp (resF_dClsN b)
theorem prog_gen (M A2 A4:HM) (ms:List Nat) (hM:M.words.length=1) (A1:HM) (h1:root1 (M,0) 3=(A1,0)) (h2':root2 (A1,0) 4=(A2,0)) (h4:pairsN (root3 A2 3,0) 22=((A4,0),ms)):
 ∃ (B:HM),bonesB (M,0)=(B,0)∧∀ s,1≤s→(B.words.length≤s→bonesB (M.res s,0)=(B.res s,0))∧(s<B.words.length→(bonesB (M.res s,0)).2=4):=by
 have S1:=stepR_root1 3 M A1 h1
 have S2:=stepR_root2 4 A1 A2 h2'
 have S12:StepR (fun s=>root2 (root1 s 3) 4) M A2:=StepR.comp S1 S2 (keeps_root2 4)
 have hR3:=resF_root3 3
 obtain⟨hle,y2,n2⟩:=stepQ_pairsN 22 (root3 A2 3) A4 ms h4
 have hW:=resF_pw ms 22 3 4
 have hwl:=(hW A4 0).2
 have l3:=(hR3 A2 0).2
 have hl2:=S12.le
 try simp only at hwl l3
 have hw1:=fun s=>(hW A4 s).1
 have hr1:=fun s=>(hR3 A2 s).1
 try simp only at hw1 hr1
 have y1:=fun s q=>S12.yes s q
 have n1:=fun s q r=>S12.no s q r
 try simp only at y1 n1
 have hr0:root2 (root1 (M,0) 3) 4=(A2,0):=by rw [h1,h2']
 have b0:bonesB (M,0)=(arcN (clsN (wireN ms A4 22) 3) 4,0):=(bonesB_of hr0).trans (bClasses_of h4)
 refine⟨arcN (clsN (wireN ms A4 22) 3) 4,b0,fun s hs1=>⟨fun hs=>?_,fun hs=>?_⟩⟩
 ·have e1:=y1 s (by omega)
  have e2:pairsN ((root3 A2 3).res s,0) 22=((A4.res s,0),ms):=y2 s (by omega)
  have e3:=bonesB_of e1
  rw [hr1] at e3
  rw [e3,bClasses_of e2,hw1]
 ·by_cases q:A2.words.length≤s
  ·have e1:=y1 s q
   have e2:(pairsN ((root3 A2 3).res s,0) 22).1.2=4:=n2 s (by omega) (by omega)
   have e3:=bonesB_of e1
   rw [hr1] at e3
   rw [e3]
   exact bClasses_bad e2
  ·have e1:=n1 s (by omega) (by omega)
   obtain⟨⟨z,e⟩,hz⟩ :∃ z,root2 (root1 (M.res s,0) 3) 4=z:=⟨_,rfl⟩
   rw [hz] at e1
   have e1':e=4:=e1
   subst e1'
   rw [bonesB_of hz]
   have e2:(pairsN (root3 z 3,4) 22).1.2=4:=keeps_pairsN (s:=(root3 z 3,4)) (show (4:Nat)≠0 by decide) 22
   exact bClasses_bad e2
theorem doc_gen (M A1 A4:HM) (ms:List Nat) (hM:M.words.length=1) (h1:dRootN (M,0) 7=(A1,0)) (h4:dPairN (A1,0) 22=((A4,0),ms)):
 ∃ (B:HM),dBones (M,0)=(B,0)∧∀ s,1≤s→(B.words.length≤s→dBones (M.res s,0)=(B.res s,0))∧(s<B.words.length→(dBones (M.res s,0)).2=4):=by
 have S1:=stepR_droots 7 M A1 h1
 obtain⟨hle,y2,n2⟩:=stepQ_dPairN 22 A1 A4 ms h4
 have hW:=resF_dw ms 22 7
 have hwl:=(hW A4 0).2
 have hl2:=S1.le
 try simp only at hwl
 have hw1:=fun s=>(hW A4 s).1
 try simp only at hw1
 have y1:=fun s q=>S1.yes s q
 have n1:=fun s q r=>S1.no s q r
 try simp only at y1 n1
 refine⟨dClsN (dWireN ms A4 22) 7,dBones_of h1 h4,fun s hs1=>⟨fun hs=>?_,fun hs=>?_⟩⟩
 ·have e1:=y1 s (by omega)
  have e2:dPairN (A1.res s,0) 22=((A4.res s,0),ms):=y2 s (by omega)
  rw [dBones_of e1 e2,hw1]
 ·by_cases q:A1.words.length≤s
  ·have e1:=y1 s q
   have e2:(dPairN (A1.res s,0) 22).1.2=4:=n2 s (by omega) (by omega)
   exact dBones_bad e1 e2
  ·have e1:=n1 s (by omega) (by omega)
   obtain⟨⟨z,e⟩,hz⟩ :∃ z,dRootN (M.res s,0) 7=z:=⟨_,rfl⟩
   rw [hz] at e1
   have e1':e=4:=e1
   subst e1'
   have e2:(dPairN (z,4) 22).1.2=4:=keeps_dPairN (s:=(z,4)) (show (4:Nat)≠0 by decide) 22
   exact dBones_bad hz e2
theorem prog_ev (M:HM) (ev1:(root1 (M,0) 3).2=0) (ev2:(root2 (root1 (M,0) 3) 4).2=0) (ev3:(pairsN (root3 (root2 (root1 (M,0) 3) 4).1 3,(root2 (root1 (M,0) 3) 4).2) 22).1.2=0):
 ∃ A1 A2 A4 ms,root1 (M,0) 3=(A1,0)∧root2 (A1,0) 4=(A2,0)∧pairsN (root3 A2 3,0) 22=((A4,0),ms):=by
 obtain⟨A1,h1⟩:=mk0 _ ev1
 rw [h1] at ev2 ev3
 obtain⟨A2,h2⟩:=mk0 _ ev2
 rw [h2] at ev3
 simp only at ev3
 obtain⟨A4,ms,h4⟩:=mkQ0 _ ev3
 exact⟨A1,A2,A4,ms,h1,h2,h4⟩
theorem doc_ev (M:HM) (ev1:(dRootN (M,0) 7).2=0) (ev2:(dPairN (dRootN (M,0) 7) 22).1.2=0):∃ A1 A4 ms,dRootN (M,0) 7=(A1,0)∧dPairN (A1,0) 22=((A4,0),ms):=by
 obtain⟨A1,h1⟩:=mk0 _ ev1
 rw [h1] at ev2
 obtain⟨A4,ms,h4⟩:=mkQ0 _ ev2
 exact⟨A1,A4,ms,h1,h4⟩
theorem bones_at (n:Nat) (h1:64≤n) (h2:n≤1048576):
 ((bonesB (HM.new n,0)).2=0∧bonesB (HM.new n,0)=dBones (HM.new n,0)∧KInv (dBones (HM.new n,0)).1)∨((bonesB (HM.new n,0)).2=4∧(dBones (HM.new n,0)).2=4):=by
 obtain⟨A1,A2,A4,ms,x1,x2,x3⟩:=prog_ev mxH ev_root1 ev_root2 ev_pairs
 obtain⟨B,b1,b2⟩:=prog_gen mxH A2 A4 ms rfl A1 x1 x2 x3
 obtain⟨D1,D4,ns,y1,y2⟩:=doc_ev mxH ev_droot ev_dpairs
 obtain⟨D,d1,d2⟩:=doc_gen mxH D1 D4 ns rfl y1 y2
 have hBD:B=D:=by
  have w1:=ev_words
  have w2:=ev_starts
  obtain⟨w3,w4,w5⟩:=ev_rest
  rw [b1,d1] at w1 w2 w3 w4 w5
  cases B
  cases D
  simp only at w1 w2 w3 w4 w5
  subst w1 w2 w3 w4 w5
  rfl
 subst hBD
 have hn:HM.new n=mxH.res n:=rfl
 obtain⟨p1,p2⟩:=b2 n (by omega)
 obtain⟨q1,q2⟩:=d2 n (by omega)
 by_cases hl:B.words.length≤n
 ·have e1:=p1 hl
  have e2:=q1 hl
  left
  rw [← hn] at e1 e2
  refine⟨by rw [e1],e1.trans e2.symm,?_⟩
  have g:GX (dBones (HM.new n,0)).1:=gx_dbones (s:=(HM.new n,0)) ⟨[],HM.new_good h1 h2 (HM.new_fit h1 h2)⟩
  have hc:=ev_chk
  rw [d1] at hc
  rw [e2] at g ⊢
  unfold chkK at hc
  simp only [Bool.and_eq_true,Bool.not_eq_true',List.all_eq_true,List.mem_range] at hc
  exact⟨g,hc.1,hc.2.1,hc.2.2.1,hc.2.2.2⟩
 ·right
  rw [hn]
  exact⟨p2 (by omega),q2 (by omega)⟩
end
section
open Go.RowKit
def E04 (e:Nat):Prop:=e=0∨e=4
theorem alloc04 {h:HM} {x:Hd} (hc:h.isB x.cls=true):E04 (h.allocE x):=by
 unfold HM.allocE
 rw [if_neg (by unfold HM.clsB; rw [hc]; simp)]
 split
 ·exact .inr rfl
 ·exact .inl rfl
theorem Alloc04 {h:HM} {c n:Nat} (hc:h.isB c=true) (hn:n≤65535):E04 (h.AllocE c 1 n):=by
 unfold HM.AllocE
 rw [if_pos (by unfold allocOk; simp; omega)]
 exact alloc04 hc
theorem KInv.isB {h:HM} (K:KInv h) {i:Nat} (h1:10≤i) (h2:i<32):h.isB (h.rt i)=true:=by
 have:=K.cls (i-10) (by omega)
 rw [show 10+(i-10)=i by omega] at this
 exact (sizK_of this).1
theorem grown04 {h:HM} (hc:h.isB (h.rt 20)=true) (a n:Nat):E04 (h.grownK a n).2.2:=by
 unfold HM.grownK
 split
 ·exact .inr rfl
 split
 ·exact Alloc04 hc (by omega)
 ·exact .inl rfl
theorem add04 {h:HM} (hc:h.isB (h.rt 20)=true) (r o:Nat):E04 (h.addK r o).2:=by
 unfold HM.addK
 split
 ·split
  ·exact grown04 hc _ _
  ·exact .inl rfl
 ·exact .inl rfl
theorem intern04 {h:HM} (K:KInv h) {t:List Nat} (h8:∀ x∈t,x<256) (hl:t.length≤1000):E04 (h.internK t).2.2:=by
 have e:h.internK t=if h.symK t≠0 then (h,h.symK t,0)
  else if h.bareK∨h.ptrsK (h.rt 3) 0=false then (h,0,40)
  else if h.makeE (h.rt 18) t≠0 then (h,0,h.makeE (h.rt 18) t)
  else if ((h.makeH (h.rt 18) t).addK 3 (2*h.words.length)).2≠0 then (h,0,((h.makeH (h.rt 18) t).addK 3 (2*h.words.length)).2)
  else (((h.makeH (h.rt 18) t).addK 3 (2*h.words.length)).1,2*h.words.length,0):=rfl
 rw [e]
 split
 ·exact .inl rfl
 split
 ·rename_i q
  rcases q with q | q
  ·rw [K.bare] at q; cases q
  ·rw [K.p3] at q; cases q
 split
 ·show E04 (h.makeE (h.rt 18) t)
  unfold HM.makeE
  rw [if_neg (by omega)]
  exact alloc04 (show h.isB (makeX (h.rt 18) t).cls=true from K.isB (by omega) (by omega))
 ·rename_i q
  have q':h.makeE (h.rt 18) t=0:=Classical.byContradiction q
  split
  ·obtain⟨l,G⟩:=K.good
   have K1:Kp h (h.makeH (h.rt 18) t):=by rw [make_push q']; exact Kp.push G _ _
   exact add04 (by rw [make_rt]; exact K1.isB _ (K.isB (by omega) (by omega))) _ _
  ·exact .inl rfl
theorem setGlo04 {h:HM} (K:KInv h) {t:List Nat} {v:Nat} (h8:∀ x∈t,x<256) (hl:t.length≤1000) (hv:v<4294967296) (hvv:h.valB v=true):E04 (h.setGloK t v).2.2:=by
 have e:h.setGloK t v=if h.bareK then (h,0,40)
  else if h.valB v=false then (h,0,3)
  else if h.gloK t≠0 then (h.putH (h.gloK t) 1 v,h.gloK t,0)
  else if h.ptrsK (h.rt 4) 0=false then (h,0,40)
  else if (h.internK t).2.2≠0 then (h,0,(h.internK t).2.2)
  else if (h.internK t).1.AllocE ((h.internK t).1.rt 23) 1 2≠0 then (h,0,(h.internK t).1.AllocE ((h.internK t).1.rt 23) 1 2)
  else if (segH (h.internK t).1 (h.internK t).2.1 v).2≠0 then (h,0,(segH (h.internK t).1 (h.internK t).2.1 v).2)
  else ((segH (h.internK t).1 (h.internK t).2.1 v).1,2*(h.internK t).1.words.length,0):=rfl
 rw [e,if_neg (by rw [K.bare]; decide),if_neg (by rw [hvv]; decide)]
 split
 ·exact .inl rfl
 rw [if_neg (by rw [K.p4]; decide)]
 split
 ·exact intern04 K h8 hl
 have KI:=K.intern h8
 obtain⟨l0,G0⟩:=K.good
 have hi32:=intern_lt G0 t
 generalize (h.internK t).2.1=oi at *
 generalize (h.internK t).1=hi at *
 split
 ·exact Alloc04 (n:=2) (KI.isB (by omega) (by omega)) (by omega)
 rename_i h6
 have h6':hi.AllocE (hi.rt 23) 1 2=0:=Classical.byContradiction h6
 split
 ·obtain⟨li,Gi⟩:=KI.good
  obtain⟨l3,G3⟩:=Gi.AllocH (hi.rt 23) 1 2 (Gi.fit.root 23)
  have K3:Kp hi (hi.AllocH (hi.rt 23) 1 2):=by rw [alloc_push h6']; exact Kp.push Gi _ _
  have K4:=((KI.keep ⟨l3,G3⟩ K3 (fun j=>Alloc_rt ..)).put (2*hi.words.length) 0 oi hi32).put (2*hi.words.length) 1 v hv
  show E04 (segH hi oi v).2
  unfold segH
  exact add04 (K4.isB (by omega) (by omega)) _ _
 ·exact .inl rfl
theorem syms04:∀ (ts:List (List Nat)) (h:HM),KInv h→(∀ t∈ts,∀ x∈t,x<256)→(∀ t∈ts,t.length≤1000)→E04 (h.symsK ts).2.2
 | [],h,K,_,_=> .inl rfl
 | t :: ts,h,K,h8,hl=>by
   rw [symsK_cons]
   have h8t:=h8 t (List.mem_cons_self ..)
   split
   ·exact intern04 K h8t (hl t (List.mem_cons_self ..))
   ·exact syms04 ts _ (K.intern h8t) (fun u hu=>h8 u (List.mem_cons_of_mem _ hu)) (fun u hu=>hl u (List.mem_cons_of_mem _ hu))
theorem nm04 {h:HM} (K:KInv h) {ts:List (List Nat)} (h8:∀ t∈ts,∀ x∈t,x<256) (hl:∀ t∈ts,t.length≤1000) (hn:ts.length≤1000):E04 (h.nmK ts).2.2:=by
 unfold HM.nmK
 split
 ·exact syms04 ts h K h8 hl
 rename_i e
 have e':(h.symsK ts).2.2=0:=Classical.byContradiction e
 obtain⟨a1,-⟩:=syms_ok ts h K h8 e'
 split
 ·exact Alloc04 (a1.isB (by omega) (by omega)) (by omega)
 ·exact .inl rfl
def OkS (s:BS):Prop:=(s.2=0∧KInv s.1)∨s.2=4
theorem OkS.name {s:BS} (o:OkS s) (k:Nat) (hk:k<22):OkS (bName s (kRow k,k)):=by
 rcases o with ⟨o1,o2⟩ | o
 rotate_left
 ·rw [bName_stop (by rw [o]; decide)]; exact .inr o
 obtain⟨h,e⟩:=s
 simp only at o1 o2
 subst o1
 have hln:=name_len k hk
 have htl:=tx_lt (kRow k).name
 have h4:=intern04 o2 htl (by omega)
 have KI:=o2.intern htl
 have hbi:bIntern (h,0) (tx (kRow k).name)=(((h.internK (tx (kRow k).name)).1,(h.internK (tx (kRow k).name)).2.2),(h.internK (tx (kRow k).name)).2.1):=rfl
 have ho32:(h.internK (tx (kRow k).name)).2.1<4294967296:=by obtain⟨l,G⟩:=o2.good; exact intern_lt G _
 by_cases q:(h.internK (tx (kRow k).name)).2.2=0
 ·have e1:=bName_ok (s:=(h,0)) (x:=(kRow k,k)) (h:=(h.internK (tx (kRow k).name)).1) (o:=(h.internK (tx (kRow k).name)).2.1) (by rw [hbi,q])
  rw [e1]
  generalize (h.internK (tx (kRow k).name)).2.1=oi at *
  generalize (h.internK (tx (kRow k).name)).1=hi at *
  generalize tx (kRow k).name=t at *
  have KP:=KI.put (hi.rt (10+k)) 0 oi ho32
  rw [nameFin_eq rfl]
  have hc:(hi.putH (hi.rt (10+k)) 0 oi).rt (10+k)=hi.rt (10+k):=put_rt ..
  have hvc:(hi.putH (hi.rt (10+k)) 0 oi).valB (hi.rt (10+k))=true:=by
   have:=KP.cls k hk
   rw [hc] at this
   exact isB_valB (sizK_of this).1
  have hc32:hi.rt (10+k)<4294967296:=by obtain⟨l,G⟩:=KI.good; exact G.fit.root _
  have s4:=setGlo04 KP htl (by omega) hc32 hvc
  rcases s4 with s4 | s4
  ·exact .inl ⟨s4,KP.setGlo htl hc32⟩
  ·exact .inr s4
 ·have e1:=bName_err (s:=(h,0)) (x:=(kRow k,k)) hbi q
  rw [e1]
  rcases h4 with h4 | h4
  ·exact absurd h4 q
  ·exact .inr h4
theorem OkS.sel {s:BS} (o:OkS s) (k:Nat) (hk:k<11):OkS (bSel s (kSel k,k)):=by
 rcases o with ⟨o1,o2⟩ | o
 rotate_left
 ·exact .inr (by rw [bSel_stop (by rw [o]; decide)]; exact o)
 obtain⟨h,e⟩:=s
 simp only at o1 o2
 subst o1
 have hln:=sel_len k hk
 have htl:=tx_lt (kSel k)
 have h4:=intern04 o2 htl (by omega)
 have KI:=o2.intern htl
 have ho32:(h.internK (tx (kSel k))).2.1<4294967296:=by obtain⟨l,G⟩:=o2.good; exact intern_lt G _
 have e1:bSel (h,0) (kSel k,k)=((h.internK (tx (kSel k))).1.putH ((h.internK (tx (kSel k))).1.rt 8) k (h.internK (tx (kSel k))).2.1,(h.internK (tx (kSel k))).2.2):=rfl
 rw [e1]
 rcases h4 with h4 | h4
 ·exact .inl ⟨h4,KI.put _ _ _ ho32⟩
 ·exact .inr h4
theorem OkS.own {s:BS} (o:OkS s) (k:Nat) (hk:k<22):OkS (bOwn s (kRow k,k)):=by
 rcases o with ⟨o1,o2⟩ | o
 rotate_left
 ·rw [bOwn_stop (by rw [o]; decide)]; exact .inr o
 obtain⟨h,e⟩:=s
 simp only at o1 o2
 subst o1
 by_cases hf:(kRow k).fields=[]
 ·have e1:bOwn (h,0) (kRow k,k)=(h,0):=if_pos (.inl hf)
  rw [e1]
  exact .inl ⟨rfl,o2⟩
 rw [bOwn_ok h (kRow k,k) hf]
 show OkS (h.ownK (h.rt (10+k)) ((kRow k).fields.map tx))
 have h8:=field_lt k
 have hl:∀ t∈(kRow k).fields.map tx,t.length≤1000:=fun t ht=>by have:=field_len k hk t ht; omega
 have hn:((kRow k).fields.map tx).length≤1000:=by rw [List.length_map]; have:=(kRow_few k hk).1; omega
 generalize (kRow k).fields.map tx=ts at *
 have n4:=nm04 o2 h8 hl hn
 have on:=own_nm o2 h8 hn hk
 rcases n4 with n4 | n4
 ·obtain⟨z1,z2,-,-⟩:=on.2 n4
  rw [z1]
  exact .inl ⟨rfl,z2⟩
 ·right
  have eo:h.ownK (h.rt (10+k)) ts=if (h.symsK ts).2.2≠0 then ((h.symsK ts).1,(h.symsK ts).2.2)
   else if ((h.symsK ts).1.arrK (h.symsK ts).2.1).2.2≠0 then (((h.symsK ts).1.arrK (h.symsK ts).2.1).1,((h.symsK ts).1.arrK (h.symsK ts).2.1).2.2)
   else (((h.symsK ts).1.arrK (h.symsK ts).2.1).1.putH (h.rt (10+k)) 3 ((h.symsK ts).1.arrK (h.symsK ts).2.1).2.1,((h.symsK ts).1.arrK (h.symsK ts).2.1).1.putE (h.rt (10+k)) 3 ((h.symsK ts).1.arrK (h.symsK ts).2.1).2.1):=rfl
  by_cases e:(h.symsK ts).2.2=0
  rotate_left
  ·rw [eo,if_pos e]
   rcases syms04 ts h o2 h8 hl with q | q
   ·exact absurd q e
   ·exact q
  rw [if_neg (fun q=>q e)] at eo
  obtain⟨a1,a2,a3,a4,a5⟩:=syms_ok ts h o2 h8 e
  have ea:=arr_ok a1 a3 (by rw [a2]; exact hn)
  rw [a2] at ea
  have en:(h.nmK ts).2.2=4:=n4
  unfold HM.nmK at en
  rw [if_neg (fun q=>q e)] at en
  by_cases e2:(h.symsK ts).1.AllocE ((h.symsK ts).1.rt 20) 1 ts.length=0
  ·rw [if_neg (fun q=>q e2)] at en
   exact absurd (show (0:Nat)=4 from en) (by decide)
  ·rw [if_pos e2] at en ea
   rw [ea] at eo
   rw [eo]
   show (if _ then _ else _:HM × Nat).2=4
   rw [if_pos (show (h.symsK ts).1.AllocE ((h.symsK ts).1.rt 20) 1 ts.length≠0 from e2)]
   exact en
theorem nameN_zero (s:BS):nameN s 0=s:=rfl
theorem selN_zero (s:BS):selN s 0=s:=rfl
theorem ownN_zero (s:BS):ownN s 0=s:=rfl
theorem okS_names {s:BS} (o:OkS s):OkS (namesB s):=by
 have h1:∀ k,k≤22→OkS (nameN s k):=fun k=>by
  induction k with
  | zero=>exact fun _=>by rw [nameN_zero]; exact o
  | succ k ih=>exact fun hk=>by rw [nameN_succ]; exact (ih (by omega)).name k (by omega)
 have h2:∀ k,k≤11→OkS (selN (nameN s 22) k):=fun k=>by
  induction k with
  | zero=>exact fun _=>by rw [selN_zero]; exact h1 22 (Nat.le_refl _)
  | succ k ih=>exact fun hk=>by rw [selN_succ]; exact (ih (by omega)).sel k (by omega)
 have h3:∀ k,k≤22→OkS (ownN (selN (nameN s 22) 11) k):=fun k=>by
  induction k with
  | zero=>exact fun _=>by rw [ownN_zero]; exact h2 11 (Nat.le_refl _)
  | succ k ih=>exact fun hk=>by rw [ownN_succ]; exact (ih (by omega)).own k (by omega)
 have h4:=h3 22 (Nat.le_refl _)
 unfold namesB
 exact h4
end
end Go.Proofs.YtdoahpflemgaeaaGreatDoor
