import Derived.Test.YtdoahpflemgaeaaGreatDoorJNRdG
import Derived.Test.YtdoahpflemgaeaaGreatDoorJMapIs
import Derived.Test.YtdoahpflemgaeaaGreatDoorJNAwF2
import Derived.Test.YtdoahpflemgaeaaGreatDoorJNNam
import Derived.Test.YtdoahpflemgaeaaGreatDoorJNRs2
set_option linter.unusedVariables false
set_option linter.unusedSimpArgs false
set_option linter.unusedSectionVars false
namespace Go.Proofs.YtdoahpflemgaeaaGreatDoor
section
open Go.RowKit
attribute [local go_sem] Oper.semAt_some
def depC (cur:Nat):Nat:=if cur=0 then 0 else depK (cur-10)+1
set_option maxRecDepth 100000 in
set_option maxHeartbeats 4000000 in
theorem dfixed_any {p:HP} {w:World} {br:Nat} (P:RowsAt p w br) (i:Nat) (hi:i<22):Calls Tryz.prog 55 #[.slice (some ⟨br,0,none⟩) 22 22,.int .i64 ((10+i:Nat):Int)] w (Said (.int .i64 (fixK (10+i) 30:Nat)) w):=by
 have HP:=Lib.hid P
 have ht:=(kRow_few i hi).2.1
 have hi2:(10+i)<32:=by omega
 obtain⟨c0,hc0⟩ :∃ c,c=10+i:=⟨_,rfl⟩
 rw [← hc0] at ht ⊢
 have HC0:=Lib.hid hc0
 obtain⟨T,hT⟩ :∃ T,T=fixK c0 30:=⟨_,rfl⟩
 rw [← hT] at ht ⊢
 have HT:=Lib.hid hT
 clear P hT hc0 hi2
 go_enter Tryz.func55,Tryz.ntmps55
 go_wp2_with fail
 go_loopw [1,5] (fun v1 v5 wr=>∃ (cur acc:Nat),v1 = .int .i64 cur∧v5 = .int .i64 acc∧wr=w∧acc≤T∧((cur=0∧acc=T)∨∃ j,j<22∧cur=10+j∧acc+fixK (10+j) 30=T)) (fun v1 _ _=>depC (intOf v1).toNat)
 case atStart=>exact⟨c0,0,rfl,rfl,rfl,Nat.zero_le _,.inr ⟨i,hi,HC0.out,by rw [HT.out,HC0.out,Nat.zero_add]⟩⟩
 case round=>
  obtain⟨cur,acc,rfl,rfl,rfl,hacc,hcase⟩:=hrel
  rcases hcase with ⟨rfl,rfl⟩ | ⟨j,hj,hcj,hsum⟩
  ·clear HT HC0
   go_wp2_with fail
   go_ret
   exact⟨rfl,rfl⟩
  ·obtain⟨A,n,-,a1,-,a3,-,a5,-⟩:=HP.out.at_ j hj
   have HFX:=Lib.hid (kRow_fix j hj)
   rw [← a5] at HFX
   have HSP:=Lib.hid (kRow_sup j hj)
   have hn7:n≤7:=by rw [a5]; exact (kRow_few j hj).1
   have HSM:=Lib.hid hsum
   have hne:((cur:Int) != 0)=true:=by simp; omega
   have hnei:¬ ((cur:Int)=0):=by omega
   have hc1:10≤cur:=by omega
   have hc2:cur<32:=by omega
   have hcur:(cur:Int)-10=(j:Int):=by omega
   have hji:(j:Int)<22:=by omega
   have HCJ:=Lib.hid hcj
   clear a5 hsum HT HC0 hcj
   obtain⟨sp,hsp⟩ :∃ s,s=(kRow j).sup:=⟨_,rfl⟩
   rw [← hsp] at a1 HFX HSP
   clear hsp
   go_wp2_with fail
   go_roundw
   case rel=>
    have hF:=HFX.out
    have hS:=HSM.out
    refine⟨sp,acc+n,rfl,by go_num,trivial,?_,?_⟩
    ·rw [hF] at hS
     omega
    ·rcases HSP.out with q | ⟨q1,q2,q3⟩
     ·rw [hF,if_pos q] at hS
      exact .inl ⟨q,by omega⟩
     ·rw [hF,if_neg (by omega)] at hS
      exact .inr ⟨sp-10,by omega,by omega,by omega⟩
   case measure=>
    have hS:=HSP.out
    have hC:=HCJ.out
    simp only [intOf,Int.toNat_natCast]
    unfold depC
    rcases hS with q | ⟨q1,q2,q3⟩
    ·rw [if_pos q]; simp [show cur≠0 by omega]
    ·rw [if_neg (by omega),if_neg (by omega),show cur-10=j by omega]; omega
theorem isTx_of_sym {h:HM} {t:List Nat} (hs:h.symK t≠0):h.isTx (h.symK t) t=true:=by
 unfold HM.symK at hs ⊢
 split at hs
 ·exact absurd rfl hs
 ·rename_i hb
  rw [if_neg hb]
  cases hf:(h.entK (h.rt 3)).find? (h.isTx · t) with
  | none=>rw [hf] at hs; exact absurd rfl hs
  | some x=>
    have:=List.find?_some (p:=fun x=>h.isTx x t) hf
    exact this
theorem intern_isB {h:HM} {l:List Ob} (G:h.Good l) {t:List Nat} (h8:∀ x∈t,x<256) (h0:(h.internK t).2.2=0):(h.internK t).1.isB (h.internK t).2.1=true:=by
 have hK:=(intern_kp G t h8).2.1
 have e:h.internK t=if h.symK t≠0 then (h,h.symK t,0)
  else if h.bareK∨h.ptrsK (h.rt 3) 0=false then (h,0,40)
  else if h.makeE (h.rt 18) t≠0 then (h,0,h.makeE (h.rt 18) t)
  else if ((h.makeH (h.rt 18) t).addK 3 (2*h.words.length)).2≠0 then (h,0,((h.makeH (h.rt 18) t).addK 3 (2*h.words.length)).2)
  else (((h.makeH (h.rt 18) t).addK 3 (2*h.words.length)).1,2*h.words.length,0):=rfl
 by_cases h1:h.symK t=0
 rotate_left
 ·rw [e,if_pos h1]
  exact isTx_isB (isTx_of_sym h1)
 rw [if_neg (fun q=>q h1)] at e
 by_cases h2:h.bareK=true∨h.ptrsK (h.rt 3) 0=false
 ·rw [e,if_pos h2] at h0; exact absurd (show (40:Nat)=0 from h0) (by decide)
 rw [if_neg h2] at e
 by_cases h3:h.makeE (h.rt 18) t=0
 rotate_left
 ·rw [e,if_pos h3] at h0; exact absurd h0 h3
 rw [if_neg (fun q=>q h3)] at e
 by_cases h4:((h.makeH (h.rt 18) t).addK 3 (2*h.words.length)).2=0
 rotate_left
 ·rw [e,if_pos h4] at h0; exact absurd h0 h4
 rw [if_neg (fun q=>q h4)] at e
 rw [e]
 have hl1:=G.fit.hi; have hl2:=G.fit.room
 obtain⟨l1,G1⟩:=G.MakeH (h.rt 18) t (G.fit.root 18) h8
 obtain⟨_,K1,_⟩:=add_kp G1 3 (2*h.words.length) (by omega)
 refine K1.isB _ ?_
 rw [make_push h3]
 exact push_isB G _ _
end
section
open Go.RowKit
attribute [local go_sem] Oper.semAt_some
theorem rt_set {h:HM} (f:h.Fit) {r v:Nat} (hr:r<64):({ h with roots:=h.roots.set r v }:HM).rt r=v:=by
 unfold HM.rt
 have:=f.roots
 rw [List.getD_eq_getElem?_getD,List.getElem?_set_self (by omega)]
 rfl
theorem add_p {h:HM} {l:List Ob} (G:h.Good l) {r:Nat} (hr:r<64) (o:Nat) (hp:h.ptrsK (h.rt r) 0=true):(h.addK r o).1.ptrsK ((h.addK r o).1.rt r) 0=true:=by
 have e:h.addK r o=if (h.entK (h.rt r)).length=h.sizK (h.rt r) then
  if (h.grownK (h.rt r) (max 1 (2*h.sizK (h.rt r)))).2.2≠0 then (h,(h.grownK (h.rt r) (max 1 (2*h.sizK (h.rt r)))).2.2)
  else (((h.grownK (h.rt r) (max 1 (2*h.sizK (h.rt r)))).1.setRootH r (h.grownK (h.rt r) (max 1 (2*h.sizK (h.rt r)))).2.1).putH (h.grownK (h.rt r) (max 1 (2*h.sizK (h.rt r)))).2.1 (h.entK (h.rt r)).length o,0)
 else (h.putH (h.rt r) (h.entK (h.rt r)).length o,0):=rfl
 by_cases h1:(h.entK (h.rt r)).length=h.sizK (h.rt r)
 ·rw [if_pos h1] at e
  by_cases h2:(h.grownK (h.rt r) (max 1 (2*h.sizK (h.rt r)))).2.2=0
  ·rw [if_neg (fun q=>q h2)] at e
   rw [e]
   obtain⟨k1,k2,⟨l2,G2⟩,k4,k5,k6⟩:=grown_new G h2
   have e2:(h.grownK (h.rt r) (max 1 (2*h.sizK (h.rt r)))).2.1=2*h.words.length:=by rw [k2]
   rw [e2]
   generalize (h.grownK (h.rt r) (max 1 (2*h.sizK (h.rt r)))).1=H at *
   have hb:=(sizK_of k5).1
   have hs:=setRoot_ok (h:=H) hr (isB_valB hb)
   have hl1:=G.fit.hi; have hl2:=G.fit.room
   have G3:(H.setRootH r (2*h.words.length)).Good l2:=G2.setRootH r _ (by omega)
   show HM.ptrsK (HM.putH _ _ _ _) (HM.rt (HM.putH _ _ _ _) r) 0=true
   rw [put_rt]
   have e3:(H.setRootH r (2*h.words.length)).rt r=2*h.words.length:=by rw [hs]; exact rt_set G2.fit hr
   rw [e3,(Kp.put G3 _ _ _).ptrs (by rw [hs]; exact hb),hs]
   exact k5
  ·rw [if_pos h2] at e
   rw [e]
   exact hp
 ·rw [if_neg h1] at e
  rw [e]
  show HM.ptrsK (HM.putH _ _ _ _) (HM.rt (HM.putH _ _ _ _) r) 0=true
  rw [put_rt,(Kp.put G _ _ _).ptrs (sizK_of hp).1]
  exact hp
structure KInv (h:HM):Prop where
 good:∃ l,h.Good l
 bare:h.bareK=false
 p3:h.ptrsK (h.rt 3) 0=true
 p4:h.ptrsK (h.rt 4) 0=true
 cls:∀ k,k<22→h.ptrsK (h.rt (10+k)) 6=true
theorem bare_same {h h':HM} (hr:∀ j,10≤j→h'.rt j=h.rt j):h'.bareK=h.bareK:=by
 unfold HM.bareK
 rw [hr 12 (by omega),hr 18 (by omega),hr 19 (by omega),hr 20 (by omega),hr 23 (by omega)]
theorem KInv.kp {h h':HM} (K:KInv h) (G:∃ l,h'.Good l) (a:Kp h h') (hr:∀ j,10≤j→h'.rt j=h.rt j) (h3:h'.ptrsK (h'.rt 3) 0=true) (h4:h'.ptrsK (h'.rt 4) 0=true):KInv h':=
 ⟨G,by rw [bare_same hr]; exact K.bare,h3,h4,fun k hk=>by rw [hr _ (by omega),a.ptrs (sizK_of (K.cls k hk)).1]; exact K.cls k hk⟩
theorem KInv.keep {h h':HM} (K:KInv h) (G:∃ l,h'.Good l) (a:Kp h h') (hr:∀ j,h'.rt j=h.rt j):KInv h':=
 K.kp G a (fun j _=>hr j) (by rw [hr,a.ptrs (sizK_of K.p3).1]; exact K.p3) (by rw [hr,a.ptrs (sizK_of K.p4).1]; exact K.p4)
theorem KInv.put {h:HM} (K:KInv h) (o:Nat) (i:Int) (v:Nat) (hv:v<4294967296):KInv (h.putH o i v):=by
 obtain⟨l,G⟩:=K.good
 obtain⟨l2,G2,_⟩:=G.putH o i v hv
 exact K.keep ⟨l2,G2⟩ (Kp.put G o i v) (fun j=>put_rt ..)
theorem KInv.intern {h:HM} (K:KInv h) {t:List Nat} (h8:∀ x∈t,x<256):KInv (h.internK t).1:=by
 obtain⟨l,G⟩:=K.good
 obtain⟨g1,k1,r1⟩:=intern_kp G t h8
 refine K.kp g1 k1 (fun j hj=>r1 j (by omega)) ?_ (by rw [r1 4 (by omega),k1.ptrs (sizK_of K.p4).1]; exact K.p4)
 have e:h.internK t=if h.symK t≠0 then (h,h.symK t,0)
  else if h.bareK∨h.ptrsK (h.rt 3) 0=false then (h,0,40)
  else if h.makeE (h.rt 18) t≠0 then (h,0,h.makeE (h.rt 18) t)
  else if ((h.makeH (h.rt 18) t).addK 3 (2*h.words.length)).2≠0 then (h,0,((h.makeH (h.rt 18) t).addK 3 (2*h.words.length)).2)
  else (((h.makeH (h.rt 18) t).addK 3 (2*h.words.length)).1,2*h.words.length,0):=rfl
 by_cases h1:h.symK t=0
 rotate_left
 ·rw [e,if_pos h1]; exact K.p3
 rw [if_neg (fun q=>q h1)] at e
 by_cases h2:h.bareK=true∨h.ptrsK (h.rt 3) 0=false
 ·rw [e,if_pos h2]; exact K.p3
 rw [if_neg h2] at e
 by_cases h3:h.makeE (h.rt 18) t=0
 rotate_left
 ·rw [e,if_pos h3]; exact K.p3
 rw [if_neg (fun q=>q h3)] at e
 by_cases h4:((h.makeH (h.rt 18) t).addK 3 (2*h.words.length)).2=0
 rotate_left
 ·rw [e,if_pos h4]; exact K.p3
 rw [if_neg (fun q=>q h4)] at e
 rw [e]
 obtain⟨l1,G1⟩:=G.MakeH (h.rt 18) t (G.fit.root 18) h8
 have K1:Kp h (h.makeH (h.rt 18) t):=by rw [make_push h3]; exact Kp.push G _ _
 exact add_p G1 (by omega) _ (by rw [make_rt,K1.ptrs (sizK_of K.p3).1]; exact K.p3)
theorem KInv.setGlo {h:HM} (K:KInv h) {t:List Nat} {v:Nat} (h8:∀ x∈t,x<256) (hv:v<4294967296):KInv (h.setGloK t v).1:=by
 obtain⟨l,G⟩:=K.good
 have e:h.setGloK t v=if h.bareK then (h,0,40)
  else if h.valB v=false then (h,0,3)
  else if h.gloK t≠0 then (h.putH (h.gloK t) 1 v,h.gloK t,0)
  else if h.ptrsK (h.rt 4) 0=false then (h,0,40)
  else if (h.internK t).2.2≠0 then (h,0,(h.internK t).2.2)
  else if (h.internK t).1.AllocE ((h.internK t).1.rt 23) 1 2≠0 then (h,0,(h.internK t).1.AllocE ((h.internK t).1.rt 23) 1 2)
  else if (segH (h.internK t).1 (h.internK t).2.1 v).2≠0 then (h,0,(segH (h.internK t).1 (h.internK t).2.1 v).2)
  else ((segH (h.internK t).1 (h.internK t).2.1 v).1,2*(h.internK t).1.words.length,0):=rfl
 rw [e]
 split
 ·exact K
 split
 ·exact K
 split
 ·exact K.put _ _ _ hv
 split
 ·exact K
 split
 ·exact K
 split
 ·exact K
 rename_i h6
 split
 ·exact K
 have h6':(h.internK t).1.AllocE ((h.internK t).1.rt 23) 1 2=0:=Classical.byContradiction fun q=>h6 q
 have KI:=K.intern h8
 have hi32:=intern_lt G t
 generalize (h.internK t).2.1=oi at *
 generalize (h.internK t).1=hi at *
 obtain⟨li,Gi⟩:=KI.good
 obtain⟨l3,G3⟩:=Gi.AllocH (hi.rt 23) 1 2 (Gi.fit.root 23)
 have K3:Kp hi (hi.AllocH (hi.rt 23) 1 2):=by rw [alloc_push h6']; exact Kp.push Gi _ _
 have K4:=((KI.keep ⟨l3,G3⟩ K3 (fun j=>Alloc_rt ..)).put (2*hi.words.length) 0 oi hi32).put (2*hi.words.length) 1 v hv
 obtain⟨l5,G5⟩:=K4.good
 have hl1:=Gi.fit.hi; have hl2:=Gi.fit.room
 obtain⟨g6,k6,r6⟩:=add_kp G5 4 (2*hi.words.length) (by omega)
 show KInv (segH hi oi v).1
 unfold segH
 exact K4.kp g6 k6 (fun j hj=>r6 j (by omega)) (by rw [r6 3 (by omega),k6.ptrs (sizK_of K4.p3).1]; exact K4.p3) (add_p G5 (by omega) _ K4.p4)
end
section
open Go.RowKit
attribute [local go_sem] Oper.semAt_some
def HM.nmK (h:HM) (ts:List (List Nat)):HM × Nat × Nat:=
 if (h.symsK ts).2.2≠0 then ((h.symsK ts).1,0,(h.symsK ts).2.2)
 else if (h.symsK ts).1.AllocE ((h.symsK ts).1.rt 20) 1 ts.length≠0 then ((h.symsK ts).1,0,(h.symsK ts).1.AllocE ((h.symsK ts).1.rt 20) 1 ts.length)
 else (((h.symsK ts).1.AllocH ((h.symsK ts).1.rt 20) 1 ts.length).copyK (2*(h.symsK ts).1.words.length) (fun i=>(h.symsK ts).2.1.getD i 0) ts.length,2*(h.symsK ts).1.words.length,0)
theorem RL.grown {w w':World} {p:HP} {g:Nat} {h:HM} (L:RL w p g h) {row:Option Nat} (hg:w.grownBy w' row) (hr:∀ q,row=some q→¬ p.has q):RL w' p g h:=
 ⟨L.at_.same (fun j hj=>hg.block j (L.at_.lt hj) (fun e=>hr j e.symm hj)),L.hg,L.good⟩
section
variable {w:World} {p:HP} {g:Nat} {h:HM} (L:RL w p g h)
include L
set_option maxRecDepth 100000 in
set_option maxHeartbeats 8000000 in
theorem dnames_any (A:Option Addr) (cap:Nat) (ts:List (List Nat)) (R:RowT p w A ts) (h8:∀ t∈ts,∀ x∈t,x<256) (hl:∀ t∈ts,t.length≤1000) (hn:ts.length≤1000) (K:KInv h):
 Calls Tryz.prog 22 #[.pointer (some ⟨g,0,none⟩),.slice A ts.length cap] w (RIn p g (h.nmK ts) w):=by
 have HL:=Lib.hid L; have HR:=Lib.hid R; have H8:=Lib.hid h8; have HLN:=Lib.hid hl; have HK:=Lib.hid K
 have HI:=Lib.hid (show h.nmK ts=if (h.symsK ts).2.2≠0 then ((h.symsK ts).1,0,(h.symsK ts).2.2)
  else if (h.symsK ts).1.AllocE ((h.symsK ts).1.rt 20) 1 ts.length≠0 then ((h.symsK ts).1,0,(h.symsK ts).1.AllocE ((h.symsK ts).1.rt 20) 1 ts.length)
  else (((h.symsK ts).1.AllocH ((h.symsK ts).1.rt 20) 1 ts.length).copyK (2*(h.symsK ts).1.words.length) (fun i=>(h.symsK ts).2.1.getD i 0) ts.length,2*(h.symsK ts).1.words.length,0) from rfl)
 have HLT:=Lib.hid (fun i hi=>show ∀ ad,A=some ad→ad.block<w.heap.size from fun ad ha=>by
  obtain⟨ad',h1,h2,_⟩:=R.at_ i hi
  rw [ha] at h1
  injection h1 with h1
  subst h1
  exact h2)
 obtain⟨i0,hi0,hz0,hz1,hz2⟩:=info_parts info_oop
 clear L R h8 hl K
 obtain⟨n,hnn⟩ :∃ n,n=ts.length:=⟨_,rfl⟩
 have HN:=Lib.hid hnn
 rw [← hnn] at hn HI
 rw [← hnn]
 clear hnn
 go_enter Tryz.func22,Tryz.ntmps22
 go_wp2_with fail
 go_loopw [6,7] (fun sv iv wr=>∃ (k:Nat) (p':HP) (h':HM) (xs:List Nat),iv = .int .i64 k∧k≤n∧h.symsK (ts.take k)=(h',xs,0)∧xs.length=k∧(∀ x∈xs,x<4294967296)∧RL wr p' g h'∧Step p p' w wr∧RowT p' wr A ts∧OwnU p' w.heap.size wr sv xs∧KInv h') (fun _ iv _=>n-(intOf iv).toNat)
 case atStart=>exact⟨0,p,h,[],rfl,Nat.zero_le _,rfl,rfl,(by intro x hx; simp at hx),HL.out,Step.refl _ _,HR.out,⟨⟨rfl,.inl ⟨rfl,rfl⟩⟩,fun q hq=>by cases hq⟩,HK.out⟩
 case round=>
  clear HL HR HK
  obtain⟨k,p1,h1,xs,rfl,hk,hsy,hxl,hx32,L1,s1,R1,O1,K1⟩:=hrel
  by_cases hkn:k<n
  ·have hd:decide ((k:Int)<(n:Int))=true:=by simp; omega
   have hkt:k<ts.length:=by rw [← HN.out]; exact hkn
   obtain⟨ad,hA,-,-,hcell⟩:=R1.at_ k hkt
   have hmem:ts.getD k []∈ts:=by rw [List.getD_eq_getElem?_getD,List.getElem?_eq_getElem hkt]; exact List.getElem_mem hkt
   have htk:ts.take (k+1)=ts.take k++[ts.getD k []]:=by rw [List.take_add_one,List.getD_eq_getElem?_getD,List.getElem?_eq_getElem hkt]; rfl
   have hsn:=symsK_snoc (ts.getD k []) (ts.take k) h (by rw [hsy])
   rw [← htk,hsy] at hsn
   have hi32:(h1.internK (ts.getD k [])).2.1<4294967296:=by obtain⟨l,G⟩:=L1.good; exact intern_lt G _
   have HIN:=Lib.hid (dintern_any L1 (ts.getD k []) (H8.out _ hmem) (by have:=HLN.out _ hmem; omega) K1.bare K1.p3)
   have HK2:=Lib.hid (K1.intern (H8.out _ hmem))
   have HSN:=Lib.hid hsn
   have HTK:=Lib.hid (show ts=ts.take (k+1)++ts.drop (k+1) from (List.take_append_drop _ _).symm)
   have HS1:=Lib.hid s1; have HR1:=Lib.hid R1; have HO1:=Lib.hid O1; have HX:=Lib.hid (And.intro hxl hx32)
   have HSY:=Lib.hid hsy
   subst hA
   have HAD:=Lib.hid (HLT.out k hkt ad rfl)
   clear hmem htk hsn hsy hx32 L1 s1 R1 O1 K1
   generalize ts.getD k []=t at *
   generalize h1.internK t=q at *
   obtain⟨h2,o2,E2⟩:=q
   simp only at HIN hi32 HSN HK2
   go_wp2_with fail
   refine HIN.out.mono ?_
   rintro e w2 ⟨p2,h3,o3,rfl,L2,s2,hq2⟩
   have HL2:=Lib.hid L2
   have HQ2:=Lib.hid hq2
   have HS2:=Lib.hid (HS1.out.trans s2)
   have HR2:=Lib.hid (HR1.out.step s2)
   have HO2:=Lib.hid (HO1.out.step s2)
   clear L2 s2 hq2 HIN HS1 HR1 HO1
   simp only at HQ2
   by_cases hE:E2=0
   rotate_left
   ·have hne:((E2:Int) != 0)=true:=by simp; omega
    have hnei:¬ ((E2:Int)=0):=by omega
    have HI2:=Lib.hid (show (h.nmK ts).2.2=E2 from by
     have h3:=HSN.out
     rw [if_pos hE] at h3
     have h4:=symsK_stop (ts.drop (k+1)) (ts.take (k+1)) h (by rw [h3]; exact hE)
     rw [← HTK.out,h3] at h4
     rw [HI.out,if_pos (by rw [h4.2]; exact hE)]
     exact h4.2)
    have HE0:=Lib.hid hE
    clear HI HSN HTK HSY hE HO2 HK2
    go_wp2_with fail
    go_ret2
    exact⟨p2,h3,0,by rw [HI2.out]; rfl,HL2.out,HS2.out,fun q=>absurd (HI2.out.symm.trans q) HE0.out⟩
   ·obtain⟨rfl,rfl⟩:=HQ2.out hE
    subst hE
    have HSN2:=Lib.hid (show h.symsK (ts.take (k+1))=(h3,xs++[o3],0) from by rw [HSN.out,if_neg (fun q=>q rfl)])
    clear HSN HTK HSY HQ2
    have hbn:w.heap.size≤w2.heap.size:=HS2.out.size
    have hown:=HO2.out.own
    rw [HX.out.1] at hown
    have HOW:=Lib.hid hown
    clear hown
    go_wp2_with (at_builtin; refine wpList_append_any _ rfl (.tmp 31) (.tmp 33) _ rfl w.heap.size 38 i0 _ 1 4 Tryz.underlying55 hi0 hz0 hz1 hz2 rfl (by omega) u6 k _ rfl (ownU_keep HOW.out (fun q hq=>Below.heap_alloc w2 (.cells #[.int .u32 (o3:Int)] 38) q (HOW.out.lt q hq).2)) (w2.heap.size+1) (some ⟨w2.heap.size,0,none⟩) 1 1 (u32s [o3]) rfl ⟨rfl,fun _=>⟨_,rfl,by simp,cell_one_new _ _ _⟩⟩ (one_u32s _) (by simp only [maxLen]; omega) (by omega) (by simp; omega) ?_; intro v1 w3 hown3 hgrow3 hat3)
    have hrow:∀ q,u6.ownBlock=some q→¬ p2.has q∧w.heap.size≤q:=fun q hq=>⟨HO2.out.out q hq,(HO2.out.own.lt q hq).1⟩
    have hb0:Below w2.heap.size w2 (w2.alloc (.cells #[.int .u32 (o3:Int)] 38)):=(Below.refl _ _).alloc (Nat.le_refl _) _
    have HL3:=Lib.hid ((HL2.out.below hb0).grown hgrow3 (fun q hq=>(hrow q hq).1))
    have HS3:=Lib.hid ((HS2.out.below' hb0).grown hgrow3 (fun q hq=>(hrow q hq).2))
    have HR3:=Lib.hid ((HR2.out.below hb0).grown hgrow3 (fun q hq ad' ha _=>by
     injection ha with ha
     subst ha
     have h1:=(hrow q hq).2
     have h2:=HAD.out
     omega))
    have HO3:=Lib.hid (show OwnU p2 w.heap.size w3 v1 (xs++[o3]) from⟨by rw [u32s_snoc] at hown3; rw [List.length_append,HX.out.1]; exact hown3,fun q hq=>by
     rcases hat3 with e | e
     ·rw [e] at hq; exact (hrow q hq).1
     ·rw [e] at hq
      injection hq with hq
      subst hq
      intro hh
      have h1:=(HL2.out.below hb0).at_.lt hh
      omega⟩)
    have HX3:=Lib.hid (show (xs++[o3]).length=k+1∧∀ x∈xs++[o3],x<4294967296 from⟨by rw [List.length_append,HX.out.1]; rfl,fun x hx=>by
     rcases List.mem_append.1 hx with q | q
     ·exact HX.out.2 x q
     ·rw [List.mem_singleton] at q; rw [q]; exact hi32⟩)
    clear hrow hb0 hown3 hgrow3 hat3 HO2 HL2 HS2 HR2 HOW HX
    go_wp2_with fail
    go_roundw
    case rel=>exact⟨k+1,p2,h3,xs++[o3],by go_num,by omega,HSN2.out,HX3.out.1,HX3.out.2,HL3.out,HS3.out,HR3.out,HO3.out,HK2.out⟩
    case measure=>simp [intOf]; omega
  ·obtain rfl:k=n:=by omega
   have hd:decide ((k:Int)<(k:Int))=false:=by simp
   have htk:ts.take k=ts:=by rw [HN.out]; exact List.take_length
   rw [htk] at hsy
   have HI2:=Lib.hid (HI.out.trans (if_neg (by rw [hsy]; exact fun q=>q rfl)))
   rw [hsy] at HI2
   simp only at HI2
   have HX32:=Lib.hid (fun i=>show xs.getD i 0<4294967296 from by
    rw [List.getD_eq_getElem?_getD]
    cases hq:xs[i]? with
    | none=>simp
    | some x=>exact hx32 x (List.mem_of_getElem? hq))
   obtain⟨c2,cr0⟩:=L1.rootsP
   have cr20:=cr0 20 (by omega)
   have hc32:h1.rt 20<4294967296:=L1.fit.root 20
   have HAL:=Lib.hid (L1.alloc (h1.rt 20) hc32 1 (k:Int))
   have hO32:=AllocO_lt L1.fit (h1.rt 20) 1 (k:Int)
   have HAO:=Lib.hid (fun h0:h1.AllocE (h1.rt 20) 1 (k:Int)=0=>show h1.AllocO (h1.rt 20) 1 (k:Int)=2*h1.words.length from by unfold HM.AllocO; rw [if_pos h0])
   obtain⟨E,hE⟩ :∃ E,E=h1.AllocE (h1.rt 20) 1 (k:Int):=⟨_,rfl⟩
   obtain⟨O,hO⟩ :∃ O,O=h1.AllocO (h1.rt 20) 1 (k:Int):=⟨_,rfl⟩
   rw [← hE] at HI2 HAO HAL
   rw [← hO] at hO32 HAO HAL
   have HS1:=Lib.hid s1
   have HO1:=Lib.hid O1
   have hxlk:=hxl
   obtain⟨r20,hr20⟩ :∃ x,x=h1.rt 20:=⟨_,rfl⟩
   rw [← hr20] at HAL HI2 cr20
   have HXL:=Lib.hid hxl
   obtain⟨A2,c3,rfl,-⟩:=O1.row
   rw [hxl]
   clear HI hsy htk O1 L1 s1 R1 hE hO hx32 cr0 hc32 hr20 K1 hxl hxlk
   go_wp2_with fail
   refine HAL.out.mono ?_
   rintro e w2 ⟨p2,rfl,L2,s2⟩
   have HL2:=Lib.hid L2
   have HS2:=Lib.hid (HS1.out.trans s2)
   have HO2:=Lib.hid (HO1.out.step s2)
   clear L2 s2 HAL HS1 c2 cr20 HO1
   by_cases hE0:E=0
   rotate_left
   ·have hne:((E:Int) == 0)=false:=by simp; omega
    have hnei:¬ ((E:Int)=0):=by omega
    have HI3:=Lib.hid (HI2.out.trans (if_pos hE0))
    have HE0:=Lib.hid hE0
    clear HI2 hE0 HAO
    go_wp2_with fail
    generalize hw2:w2=w3 at HL2 HS2
    clear HO2
    go_loopw [12] (fun iv wr=>iv = .int .i64 0∧wr=w3) (fun _ _=>0)
    case atStart=>exact⟨rfl,rfl⟩
    case round=>
     obtain⟨rfl,rfl⟩:=hrel
     clear hd
     by_cases hk0:k=0
     ·subst hk0
      go_wp2_with fail
      go_ret2
      rw [HI3.out]
      exact⟨p2,_,O,rfl,HL2.out,HS2.out,fun q=>absurd q HE0.out⟩
     ·have hng:decide (0<(k:Int))=true:=decide_eq_true (by omega)
      have hng2:decide (0<k)=true:=decide_eq_true (by omega)
      have hnp:0<k:=by omega
      clear hk0
      go_wp2_with fail
      go_ret2
      rw [HI3.out]
      exact⟨p2,_,O,rfl,HL2.out,HS2.out,fun q=>absurd q HE0.out⟩
   ·have hOO:=HAO.out hE0
    subst hE0
    have HI3:=Lib.hid (HI2.out.trans (if_neg (fun q=>q rfl)))
    rw [← hOO] at HI3
    clear HI2 HAO hOO
    generalize h1.AllocH r20 1 (k:Int)=H at *
    clear hd
    rw [show ((0:Nat):Int)=0 from rfl]
    go_wp2_with fail
    go_loopw [12] (fun iv wr=>∃ (j:Nat) (p':HP),iv = .int .i64 j∧j≤k∧RL wr p' g (H.copyK O (fun i=>xs.getD i 0) j)∧Step p p' w wr∧OwnU p' w.heap.size wr (.slice A2 xs.length c3) xs) (fun iv _=>k-(intOf iv).toNat)
    case atStart=>exact⟨0,p2,rfl,Nat.zero_le _,HL2.out,HS2.out,HO2.out⟩
    case round=>
     clear HL2 HS2 HO2
     obtain⟨j,p3,rfl,hj,L3,s3,O3⟩:=hrel
     by_cases hjk:j<k
     ·have hd:decide ((j:Int)<(k:Int))=true:=by simp; omega
      have hdn:decide (j<k)=true:=decide_eq_true hjk
      have hjx:j<xs.length:=by rw [HXL.out]; exact hjk
      obtain⟨A',c',e1,RU⟩:=O3.row
      injection e1 with e1 e2 e3
      subst e1
      clear e2 e3
      obtain⟨ad,hA,-,-,hcell⟩:=RU.at_ j hjx
      subst hA
      have HCS:=Lib.hid (copy_succ H O (fun i=>xs.getD i 0) j)
      have hv32:=HX32.out j
      have HP:=Lib.hid (L3.put O hO32 (j:Int) (by omega) (xs.getD j 0) hv32)
      have HS3:=Lib.hid s3
      have HO3:=Lib.hid O3
      clear L3 s3 O3 RU hjx
      obtain⟨fv,hfv⟩ :∃ x,x=xs.getD j 0:=⟨_,rfl⟩
      have HFV:=Lib.hid hfv
      rw [← hfv] at hcell HP hv32
      clear hfv
      go_wp2_with fail
      refine HP.out.mono ?_
      rintro e w4 ⟨p4,rfl,L4,s4⟩
      have HL4:=Lib.hid L4
      have HS4:=Lib.hid (HS3.out.trans s4)
      have HO4:=Lib.hid (HO3.out.step s4)
      clear L4 s4 HP HS3 HO3 hcell
      go_wp2_with fail
      go_roundw
      case rel=>
       refine⟨j+1,p4,by go_num,by omega,?_,HS4.out,HO4.out⟩
       rw [HCS.out]
       show RL _ _ _ (HM.putH _ _ _ (xs.getD j 0))
       rw [← HFV.out]
       exact HL4.out
      case measure=>simp [intOf]; omega
     ·obtain rfl:j=k:=by omega
      have hd:decide ((j:Int)<(j:Int))=false:=by simp
      have HL3:=Lib.hid L3
      have HS3:=Lib.hid s3
      clear L3 s3 O3
      go_wp2_with fail
      go_ret2
      rw [HI3.out]
      exact⟨p3,_,O,rfl,HL3.out,HS3.out,fun _=>⟨rfl,rfl⟩⟩
end
end
section
open Go.RowKit Go.Maps
def MapO (w:World) (b n:Nat) (f:Nat→Nat):Prop:=
 ∃ D:DataW Unit,IsMap D∧w.ownsMap Tryz.prog 3 (plainElem Tryz.prog 38) b n D∧∀ x:Nat,x<4294967296→D.atKey (.int .i64 (x:Int)) (.lit (.int .u32 0)) = .lit (.int .u32 (f x:Nat))
section
variable {w w':World} {b n:Nat} {f:Nat→Nat}
theorem MapO.made (w:World):MapO (w.alloc (.map #[] 0)) w.heap.size 0 (fun _=>0):=
 ⟨.map [],⟨[],rfl⟩,World.ownsMap_made _ _ _ _,fun x _=>rfl⟩
theorem MapO.lt (h:MapO w b n f):b<w.heap.size:=by obtain⟨D,_,h,_⟩:=h; exact h.lt
theorem MapO.same (h:MapO w b n f) (hs:w'.heap[b]? = w.heap[b]?):MapO w' b n f:=by
 obtain⟨D,hD,⟨es,clock,hb,r⟩,hf⟩:=h
 exact⟨D,hD,⟨es,clock,hs.trans hb,r⟩,hf⟩
theorem MapO.below (h:MapO w b n f) (hb:Below w.heap.size w w'):MapO w' b n f:=h.same (hb.block b h.lt)
set_option maxRecDepth 100000 in
theorem MapO.look (h:MapO w b n f) {x:Nat} (hx:x<4294967296):(Instr.lookup 96 (.map (some b)) (.int .i64 (x:Int)) false).run Tryz.prog w = .ok (.int .u32 (f x:Nat)) w:=by
 obtain⟨D,hD,ho,hf⟩:=h
 obtain⟨c,hrun,hat,_⟩:=ho.lookup_int (int_keyed Tryz.underlying3) Tryz.underlying96 Tryz.underlying38 (show (zeroValue 38).run Tryz.prog w = .ok (.int .u32 0) w by kernel_rfl) (keyOf_int_mk Tryz.underlying3 (wf_i64 (x:=x) (by omega)))
 rw [hf x hx] at hat
 have e:c=(f x:Nat):=by
  simp only [DataW.lit.injEq,Lit.int.injEq,true_and] at hat
  exact hat.symm
 subst e
 exact hrun
set_option maxRecDepth 100000 in
theorem MapO.put (h:MapO w b n f) {x v:Nat} (hx:x<4294967296) (hv:v<4294967296) (hn:n<9223372036854775807):
 ∃ w',(Instr.mapUpdate 96 (.map (some b)) (.int .i64 (x:Int)) (.int .u32 (v:Int))).run Tryz.prog w = .ok () w'∧MapO w' b (n+1) (fun y=>if y=x then v else f y)∧w.grownBy w' (some b):=by
 obtain⟨D,hD,ho,hf⟩:=h
 obtain⟨w',hrun,ho',hg⟩:=ho.update (int_keyed Tryz.underlying3) Tryz.underlying96 (by unfold maxLen; omega) (keyOf_int_mk Tryz.underlying3 (wf_i64 (x:=x) (by omega))) (plainElem_int Tryz.underlying38 (wf_u32 hv))
 refine⟨w',hrun,⟨_,hD.put _ _,ho',fun y hy=>?_⟩,hg⟩
 show _=DataW.lit (.int .u32 ((if y=x then v else f y:Nat):Int))
 by_cases hyx:y=x
 ·subst hyx
  rw [if_pos rfl]
  exact atKey_put_same hD (show WideAt.IsKeyLit (.int .i64 (y:Int)) from trivial) _ _
 ·rw [if_neg hyx,atKey_put_other (by intro e; injection e with _ e; omega)]
  exact hf y hy
end
def sI (i:Nat):Nat:=[0,0,0,128,32,8,16].getD i 0
def rI (i:Nat):Nat:=[0,1,2,3,4,6,8].getD i 0
def dRoot1 (h:HM) (i:Nat):HM:=
 if i=0 then ((((h.AllocH 0 1 (sI i)).setRootH (rI i) (h.AllocO 0 1 (sI i))).setRootH (5:Nat) (h.AllocO 0 1 (sI i))).setRootH (7:Nat) (h.AllocO 0 1 (sI i))).setRootH (9:Nat) (h.AllocO 0 1 (sI i))
 else (h.AllocH 0 1 (sI i)).setRootH (rI i) (h.AllocO 0 1 (sI i))
def dRootB (s:BS) (i:Nat):BS:=if s.2≠0 then s else if s.1.AllocE 0 1 (sI i)≠0 then (s.1,s.1.AllocE 0 1 (sI i)) else (dRoot1 s.1 i,0)
def dRootN (s:BS) (k:Nat):BS:=(List.range k).foldl dRootB s
def pairE (h:HM):Nat:=if h.AllocE 0 1 6≠0 then h.AllocE 0 1 6 else (h.AllocH 0 1 6).AllocE 0 1 6
def dPairB (q:BS × List Nat) (k:Nat):BS × List Nat:=
 if q.1.2≠0 then q else if pairE q.1.1≠0 then ((q.1.1,pairE q.1.1),q.2)
 else ((((q.1.1.AllocH 0 1 6).AllocH 0 1 6).setRootH (10+k:Nat) (q.1.1.AllocO 0 1 6),0),q.2++[(q.1.1.AllocH 0 1 6).AllocO 0 1 6])
def dPairN (s:BS) (k:Nat):BS × List Nat:=(List.range k).foldl dPairB (s,[])
def dWireK (ms:List Nat) (h:HM) (k:Nat):HM:=
 dWire h (h.rt (10+k)) (ms.getD k 0) (h.rt 0) (if (kRow k).sup=0 then h.rt 0 else h.rt (kRow k).sup) (if (kRow k).sup=0 then h.rt 11 else ms.getD ((kRow k).sup-10) 0) (fmtK (kRow k) k)
def dWireN (ms:List Nat) (h:HM) (k:Nat):HM:=(List.range k).foldl (dWireK ms) h
def dCls1 (h:HM) (i:Nat):HM:=if i<3 then h.setClassH (h.rt i) (h.rt (13+i)) else h.setClassH (h.rt (rI i)) (h.rt 20)
def dClsN (h:HM) (k:Nat):HM:=(List.range k).foldl dCls1 h
def dBones (s:BS):BS:=if (dPairN (dRootN s 7) 22).1.2≠0 then (dPairN (dRootN s 7) 22).1 else (dClsN (dWireN (dPairN (dRootN s 7) 22).2 (dPairN (dRootN s 7) 22).1.1 22) 7,0)
theorem dRootN_succ (s:BS) (k:Nat):dRootN s (k+1)=dRootB (dRootN s k) k:=by unfold dRootN; rw [List.range_succ,List.foldl_append]; rfl
theorem dPairN_succ (s:BS) (k:Nat):dPairN s (k+1)=dPairB (dPairN s k) k:=by unfold dPairN; rw [List.range_succ,List.foldl_append]; rfl
theorem dWireN_succ (ms:List Nat) (h:HM) (k:Nat):dWireN ms h (k+1)=dWireK ms (dWireN ms h k) k:=by unfold dWireN; rw [List.range_succ,List.foldl_append]; rfl
theorem dClsN_succ (h:HM) (k:Nat):dClsN h (k+1)=dCls1 (dClsN h k) k:=by unfold dClsN; rw [List.range_succ,List.foldl_append]; rfl
theorem dRootN_stop (s:BS) (k:Nat) (h:(dRootN s k).2≠0):∀ j,dRootN s (k+j)=dRootN s k
 | 0=>rfl
 | j+1=>by
   rw [← Nat.add_assoc,dRootN_succ,dRootN_stop s k h j]
   exact if_pos h
theorem dPairN_stop (s:BS) (k:Nat) (h:(dPairN s k).1.2≠0):∀ j,dPairN s (k+j)=dPairN s k
 | 0=>rfl
 | j+1=>by
   rw [← Nat.add_assoc,dPairN_succ,dPairN_stop s k h j]
   exact if_pos h
theorem dPairN_bad (s:BS) (h:s.2≠0):∀ k,dPairN s k=(s,[])
 | 0=>rfl
 | k+1=>by
   rw [dPairN_succ,dPairN_bad s h k]
   exact if_pos h
theorem dBones_roots {s:BS} {k:Nat} (hk:k≤7) (h:(dRootN s k).2≠0):(dBones s).2=(dRootN s k).2:=by
 have e:dRootN s 7=dRootN s k:=by rw [show 7=k+(7-k) by omega]; exact dRootN_stop s k h _
 unfold dBones
 rw [e,dPairN_bad _ h,if_pos h]
theorem dBones_pairs {s:BS} {k:Nat} (hk:k≤22) (h:(dPairN (dRootN s 7) k).1.2≠0):(dBones s).2=(dPairN (dRootN s 7) k).1.2:=by
 have e:dPairN (dRootN s 7) 22=dPairN (dRootN s 7) k:=by rw [show 22=k+(22-k) by omega]; exact dPairN_stop _ k h _
 unfold dBones
 rw [e,if_pos h]
def DBonesP (p:HP) (g:Nat) (h:HM) (w:World) (e:Ending) (w':World):Prop:=
 ∃ p' h',e = .returned (.int .i64 ((dBones (h,0)).2:Nat))∧RL w' p' g h'∧Step p p' w w'∧((dBones (h,0)).2=0→h'=(dBones (h,0)).1)
end
section
open Go.RowKit
theorem symsK_cons {h:HM} {t:List Nat} {ts:List (List Nat)}:h.symsK (t :: ts)=if (h.internK t).2.2≠0 then ((h.internK t).1,[],(h.internK t).2.2) else
 (((h.internK t).1.symsK ts).1,(h.internK t).2.1 :: ((h.internK t).1.symsK ts).2.1,((h.internK t).1.symsK ts).2.2):=rfl
theorem syms_ok:∀ (ts:List (List Nat)) (h:HM),KInv h→(∀ t∈ts,∀ x∈t,x<256)→(h.symsK ts).2.2=0→
 KInv (h.symsK ts).1∧(h.symsK ts).2.1.length=ts.length∧(∀ x∈(h.symsK ts).2.1,(h.symsK ts).1.isB x=true)∧Kp h (h.symsK ts).1∧∀ j,j≠3→(h.symsK ts).1.rt j=h.rt j
 | [],h,K,_,_=>⟨K,rfl,fun x hx=>(by cases hx),Kp.refl h,fun _ _=>rfl⟩
 | t :: ts,h,K,h8,h0=>by
   rw [symsK_cons] at h0 ⊢
   by_cases e:(h.internK t).2.2=0
   ·rw [if_neg (fun q=>q e)] at h0 ⊢
    have h8t:=h8 t (List.mem_cons_self ..)
    have KI:=K.intern h8t
    obtain⟨l,G⟩:=K.good
    obtain⟨_,k1,r1⟩:=intern_kp G t h8t
    have hb:=intern_isB G h8t e
    obtain⟨a1,a2,a3,a4,a5⟩:=syms_ok ts _ KI (fun u hu=>h8 u (List.mem_cons_of_mem _ hu)) h0
    refine⟨a1,by simp [a2],fun x hx=>?_,k1.trans a4,fun j hj=>(a5 j hj).trans (r1 j hj)⟩
    rcases List.mem_cons.1 hx with q | q
    ·rw [q]; exact a4.isB _ hb
    ·exact a3 x q
   ·rw [if_pos e] at h0
    exact absurd h0 e
theorem arr_ok {h:HM} (K:KInv h) {l:List Nat} (hv:∀ x∈l,h.isB x=true) (hn:l.length≤1000):h.arrK l=if h.AllocE (h.rt 20) 1 l.length≠0 then (h,0,h.AllocE (h.rt 20) 1 l.length)
 else ((h.AllocH (h.rt 20) 1 l.length).copyK (2*h.words.length) (fun i=>l.getD i 0) l.length,2*h.words.length,0):=by
 unfold HM.arrK
 rw [if_neg (by rw [K.bare]; decide),if_neg,if_neg (by omega)]
 intro q
 obtain⟨x,hx,hq⟩:=List.any_eq_true.1 q
 rw [isB_valB (hv x hx)] at hq
 cases hq
theorem own_nm {h:HM} (K:KInv h) {ts:List (List Nat)} (h8:∀ t∈ts,∀ x∈t,x<256) (hn:ts.length≤1000) {k:Nat} (hk:k<22):
 ((h.nmK ts).2.2≠0→(h.ownK (h.rt (10+k)) ts).2≠0)∧((h.nmK ts).2.2=0→h.ownK (h.rt (10+k)) ts=((h.nmK ts).1.putH (h.rt (10+k)) 3 (h.nmK ts).2.1,0)∧KInv ((h.nmK ts).1.putH (h.rt (10+k)) 3 (h.nmK ts).2.1)∧(h.nmK ts).2.1<4294967296∧(h.nmK ts).1.rt (10+k)=h.rt (10+k)):=by
 have eo:h.ownK (h.rt (10+k)) ts=if (h.symsK ts).2.2≠0 then ((h.symsK ts).1,(h.symsK ts).2.2)
  else if ((h.symsK ts).1.arrK (h.symsK ts).2.1).2.2≠0 then (((h.symsK ts).1.arrK (h.symsK ts).2.1).1,((h.symsK ts).1.arrK (h.symsK ts).2.1).2.2)
  else (((h.symsK ts).1.arrK (h.symsK ts).2.1).1.putH (h.rt (10+k)) 3 ((h.symsK ts).1.arrK (h.symsK ts).2.1).2.1,((h.symsK ts).1.arrK (h.symsK ts).2.1).1.putE (h.rt (10+k)) 3 ((h.symsK ts).1.arrK (h.symsK ts).2.1).2.1):=rfl
 have en:h.nmK ts=if (h.symsK ts).2.2≠0 then ((h.symsK ts).1,0,(h.symsK ts).2.2)
  else if (h.symsK ts).1.AllocE ((h.symsK ts).1.rt 20) 1 ts.length≠0 then ((h.symsK ts).1,0,(h.symsK ts).1.AllocE ((h.symsK ts).1.rt 20) 1 ts.length)
  else (((h.symsK ts).1.AllocH ((h.symsK ts).1.rt 20) 1 ts.length).copyK (2*(h.symsK ts).1.words.length) (fun i=>(h.symsK ts).2.1.getD i 0) ts.length,2*(h.symsK ts).1.words.length,0):=rfl
 by_cases e:(h.symsK ts).2.2=0
 rotate_left
 ·rw [if_pos e] at eo en
  rw [eo,en]
  exact⟨fun _=>e,fun q=>absurd q e⟩
 rw [if_neg (fun q=>q e)] at eo en
 obtain⟨a1,a2,a3,a4,a5⟩:=syms_ok ts h K h8 e
 have ea:=arr_ok a1 a3 (by rw [a2]; exact hn)
 rw [a2] at ea
 have hc6:=K.cls k hk
 have hc:=a1.cls k hk
 rw [a5 (10+k) (by omega)] at hc
 have hrt:=a5 (10+k) (by omega)
 generalize (h.symsK ts).2.1=xs at *
 generalize (h.symsK ts).1=s at *
 by_cases e2:s.AllocE (s.rt 20) 1 ts.length=0
 rotate_left
 ·rw [if_pos e2] at en ea
  rw [ea] at eo
  have e3:h.ownK (h.rt (10+k)) ts=(s,s.AllocE (s.rt 20) 1 ts.length):=by rw [eo]; exact if_pos e2
  rw [e3,en]
  exact⟨fun _=>e2,fun q=>absurd q e2⟩
 rw [if_neg (fun q=>q e2)] at en ea
 rw [ea] at eo
 obtain⟨l,G⟩:=a1.good
 have hr20:s.rt 20<4294967296:=G.fit.root 20
 obtain⟨b1,b2,b3,-⟩:=alloc_new G hr20 e2
 obtain⟨l1,G1⟩:=G.AllocH (s.rt 20) 1 ts.length hr20
 have K1:Kp s (s.AllocH (s.rt 20) 1 ts.length):=by rw [alloc_push e2]; exact Kp.push G _ _
 have hx32:∀ i,xs.getD i 0<4294967296:=fun i=>by
  rw [List.getD_eq_getElem?_getD]
  cases hq:xs[i]? with
  | none=>simp
  | some x=>
    have hb:=a3 x (List.mem_of_getElem? hq)
    have hl:=HM.isB_lt hb
    have h1:=G.fit.hi
    have h2:=G.fit.room
    have h3:=(G.fits hb).1
    show x<4294967296
    omega
 obtain⟨⟨l2,G2⟩,K2,-⟩:=copy_good G1 (2*s.words.length) (fun i=>xs.getD i 0) hx32 ts.length
 have hO32:2*s.words.length<4294967296:=by have h1:=G.fit.hi; have h2:=G.fit.room; omega
 have hcr:∀ j,((s.AllocH (s.rt 20) 1 ts.length).copyK (2*s.words.length) (fun i=>xs.getD i 0) ts.length).rt j=s.rt j:=fun j=>by rw [copy_rt,Alloc_rt]
 have KS:KInv ((s.AllocH (s.rt 20) 1 ts.length).copyK (2*s.words.length) (fun i=>xs.getD i 0) ts.length):=a1.keep ⟨l2,G2⟩ (K1.trans K2) hcr
 have hvb:((s.AllocH (s.rt 20) 1 ts.length).copyK (2*s.words.length) (fun i=>xs.getD i 0) ts.length).valB (2*s.words.length)=true:=isB_valB (K2.isB _ b1)
 have hpc:((s.AllocH (s.rt 20) 1 ts.length).copyK (2*s.words.length) (fun i=>xs.getD i 0) ts.length).ptrsK (h.rt (10+k)) 6=true:=by rw [(K1.trans K2).ptrs (sizK_of hc).1]; exact hc
 have hrc:=hcr (10+k)
 generalize (s.AllocH (s.rt 20) 1 ts.length).copyK (2*s.words.length) (fun i=>xs.getD i 0) ts.length=T at *
 obtain⟨q1,q2,q3,q4⟩:=sizK_of hpc
 have hp0:T.ptrsK (h.rt (10+k)) 0=true:=by
  unfold HM.ptrsK at hpc ⊢
  simp only [Bool.and_eq_true,decide_eq_true_eq] at hpc ⊢
  exact⟨hpc.1,hpc.2.1,by omega⟩
 have hpe:T.putE (h.rt (10+k)) ((3:Nat):Int) (2*s.words.length)=0:=putE_ok hp0 (by rw [q4]; omega) hvb
 have e3:h.ownK (h.rt (10+k)) ts=(T.putH (h.rt (10+k)) 3 (2*s.words.length),T.putE (h.rt (10+k)) 3 (2*s.words.length)):=by rw [eo]; exact if_neg (fun q=>q rfl)
 rw [e3,en]
 refine⟨fun q=>absurd rfl q,fun _=>⟨?_,KS.put _ _ _ hO32,hO32,?_⟩⟩
 ·rw [show T.putE (h.rt (10+k)) 3 (2*s.words.length)=0 from hpe]
 ·show T.rt (10+k)=_
  rw [hrc,hrt]
def dbootK (n:Nat):BS:=namesB (dBones (HM.new n,0))
def DBootP (n:Nat) (w:World) (e:Ending) (w':World):Prop:=
 Below w.heap.size w w'∧if (dbootK n).2=0 then ∃ p g,e = .returned (.tuple #[.pointer (some ⟨g,0,none⟩),.int .i64 0])∧RL w' p g (dbootK n).1
  else e = .returned (.tuple #[.pointer none,.int .i64 4])
end
section
open Go.RowKit
def ResF (F:HM→HM):Prop:=∀ h s,F (h.res s)=(F h).res s∧(F h).words.length=h.words.length
theorem ResF.comp {F H:HM→HM} (a:ResF F) (b:ResF H):ResF (fun h=>H (F h)):=fun h s=>by
 show H (F (h.res s))=_∧(H (F h)).words.length=_
 rw [(a h s).1,(b (F h) s).1,(b (F h) s).2,(a h s).2]
 exact⟨rfl,rfl⟩
theorem ResF.fold {α:Type} {f:HM→α→HM} (K:∀ x,ResF (fun h=>f h x)):∀ (l:List α),ResF (fun h=>l.foldl f h)
 | []=>fun h s=>⟨rfl,rfl⟩
 | x :: l=>(K x).comp (ResF.fold K l)
theorem resF_wire (ms:List Nat) (x:KRow × Nat):ResF (fun h=>bWire ms h x):=fun h s=>by
 have e:∀ g:HM,bWire ms g x=(let c:=g.rt (10+x.2); let m:=ms.getD x.2 0
  let h:=g.putH c 4 (smN (fmtK x.1 x.2)); let h:=h.putH m 4 (smN 49); let h:=h.putH m 5 c; let h:=h.putH m 1 (h.rt 11)
  let h:=if x.1.sup=0 then h else (h.putH c 1 (h.rt x.1.sup)).putH m 1 (ms.getD (x.1.sup-10) 0)
  let h:=h.setClassH c m; h.setClassH m (h.rt 12)):=fun _=>rfl
 show bWire ms (h.res s) x=(bWire ms h x).res s∧(bWire ms h x).words.length=h.words.length
 have hr:∀ (g:HM) (j:Nat),(g.res s).rt j=g.rt j:=fun _ _=>rfl
 rw [e,e]
 simp only [hr,res_put]
 by_cases q:x.1.sup=0
 ·rw [if_pos q,if_pos q]
  exact⟨by simp only [hr,res_setClass],by simp only [setClass_len,put_len]⟩
 ·rw [if_neg q,if_neg q]
  exact⟨by simp only [hr,res_put,res_setClass],by simp only [setClass_len,put_len]⟩
theorem resF_dWire (ms:List Nat) (k:Nat):ResF (fun h=>dWireK ms h k):=fun h s=>by
 show dWireK ms (h.res s) k=(dWireK ms h k).res s∧(dWireK ms h k).words.length=h.words.length
 have hr:∀ (g:HM) (j:Nat),(g.res s).rt j=g.rt j:=fun _ _=>rfl
 unfold dWireK dWire
 exact⟨by simp only [hr,res_put,res_setClass],by simp only [setClass_len,put_len]⟩
theorem resF_cls (f g:Nat→Nat) (i:Nat):ResF (fun h=>h.setClassH (h.rt (f i)) (h.rt (g i))):=fun h s=>⟨res_setClass h s _ _,setClass_len h _ _⟩
theorem resF_setRoot (i:Int) (v:HM→Nat) (hv:∀ h s,v (h.res s)=v h):ResF (fun h=>h.setRootH i (v h)):=fun h s=>by
 show (h.res s).setRootH i (v (h.res s))=_∧_
 rw [hv]
 exact⟨res_setRoot h s i _,setRoot_len h i _⟩
abbrev QS:=BS × List Nat
structure StepQ (f:QS→QS) (h:HM) (ms:List Nat) (h':HM) (ms':List Nat):Prop where
 le:h.words.length≤h'.words.length
 yes:∀ s,h'.words.length≤s→f ((h.res s,0),ms)=((h'.res s,0),ms')
 no:∀ s,h.words.length≤s→s<h'.words.length→(f ((h.res s,0),ms)).1.2=4
def KeepsQ (f:QS→QS):Prop:=∀ q:QS,q.1.2≠0→(f q).1.2=q.1.2
theorem StepQ.comp {f g:QS→QS} {a b c:HM} {x y z:List Nat} (F:StepQ f a x b y) (H:StepQ g b y c z) (K:KeepsQ g):StepQ (fun s=>g (f s)) a x c z:=
 ⟨Nat.le_trans F.le H.le,fun s hs=>by
   show g (f ((a.res s,0),x))=_
   rw [F.yes s (Nat.le_trans H.le hs),H.yes s hs],fun s h1 h2=>by
   show (g (f ((a.res s,0),x))).1.2=4
   by_cases e:b.words.length≤s
   ·rw [F.yes s e]
    exact H.no s e h2
   ·have d:=F.no s h1 (by omega)
    rw [K _ (by rw [d]; decide),d]⟩
theorem keepsQ_fold {α:Type} {f:QS→α→QS} (K:∀ x,KeepsQ (fun s=>f s x)):∀ (l:List α),KeepsQ (fun s=>l.foldl f s)
 | []=>fun q _=>rfl
 | x :: l=>fun q hq=>by
   have d:=K x q hq
   have:=keepsQ_fold K l (f q x) (by show (f q x).1.2≠0; rw [show (f q x).1.2=q.1.2 from d]; exact hq)
   exact this.trans d
theorem stepQ_fold {α:Type} {f:QS→α→QS} (K:∀ x,KeepsQ (fun s=>f s x)) (S:∀ x h ms h' ms',f ((h,0),ms) x=((h',0),ms')→StepQ (fun s=>f s x) h ms h' ms'):
 ∀ (l:List α) (h:HM) (ms:List Nat) (h':HM) (ms':List Nat),l.foldl f ((h,0),ms)=((h',0),ms')→StepQ (fun s=>l.foldl f s) h ms h' ms'
 | [],h,ms,h',ms',e=>by
   injection e with e1 e2
   injection e1 with e1 _
   subst e1 e2
   exact⟨Nat.le_refl _,fun s _=>rfl,fun s h1 h2=>by omega⟩
 | x :: l,h,ms,h',ms',e=>by
   rw [List.foldl_cons] at e
   have e0:(f ((h,0),ms) x).1.2=0:=Classical.byContradiction fun q=>by
    have d:=keepsQ_fold K l (f ((h,0),ms) x) q
    have d2:(l.foldl f (f ((h,0),ms) x)).1.2=0:=by rw [e]
    exact q (d.symm.trans d2)
   obtain⟨h1,m1,e1⟩ :∃ h1 m1,f ((h,0),ms) x=((h1,0),m1):=⟨(f ((h,0),ms) x).1.1,(f ((h,0),ms) x).2,Prod.ext (Prod.ext rfl e0) rfl⟩
   rw [e1] at e
   exact StepQ.comp (S x h ms h1 m1 e1) (stepQ_fold K S l h1 m1 h' ms' e) (keepsQ_fold K l)
theorem res_one {h:HM} {n:Nat} (h0:h.AllocE 0 1 n=0) (s:Nat):
 (h.AllocH 0 1 n).words.length=h.words.length+3+n∧
 (h.words.length+3+n≤s→(h.res s).AllocE 0 1 n=0∧(h.res s).AllocH 0 1 n=(h.AllocH 0 1 n).res s∧(h.res s).AllocO 0 1 n=h.AllocO 0 1 n)∧
 (s<h.words.length+3+n→(h.res s).AllocE 0 1 n=4):=by
 obtain⟨a,b,c⟩:=res_Alloc h0 s
 refine⟨by simpa using a,fun q=>?_,fun q=>(c (by simpa using q)).1⟩
 obtain⟨b1,b2⟩:=b (by simpa using q)
 refine⟨b1,b2,?_⟩
 unfold HM.AllocO
 rw [b1,h0]
 rfl
theorem res_six {h:HM} (h0:h.AllocE 0 1 6=0) (s:Nat):
 (h.AllocH 0 1 6).words.length=h.words.length+3+6∧
 (h.words.length+3+6≤s→(h.res s).AllocE 0 1 6=0∧(h.res s).AllocH 0 1 6=(h.AllocH 0 1 6).res s∧(h.res s).AllocO 0 1 6=h.AllocO 0 1 6)∧
 (s<h.words.length+3+6→(h.res s).AllocE 0 1 6=4):=res_one (n:=6) h0 s
def fPair (q:QS) (i:Nat):QS:=((bAlloc (bRoot q.1 (10+i) 6) 6).1,q.2++[(bAlloc (bRoot q.1 (10+i) 6) 6).2])
theorem keepsQ_pair (i:Nat):KeepsQ (fun q=>fPair q i):=fun q hq=>by
 show (bAlloc (bRoot q.1 (10+i) 6) 6).1.2=q.1.2
 have e:(bRoot q.1 (10+i) 6).2=q.1.2:=keeps_bRoot (10+i) 6 q.1.1 q.1.2 hq
 unfold bAlloc
 rw [if_pos (by rw [e]; exact hq),e]
theorem stepQ_pair (i:Nat) (h:HM) (ms:List Nat) (h':HM) (ms':List Nat) (e:fPair ((h,0),ms) i=((h',0),ms')):StepQ (fun q=>fPair q i) h ms h' ms':=by
 have key:∀ g:HM,bRoot (g,0) (10+i) 6=((g.AllocH 0 1 6).setRootH ((10+i:Nat):Int) (g.AllocO 0 1 6),g.AllocE 0 1 6):=fun g=>rfl
 have key2:∀ g:HM,fPair ((g,0),ms) i=((bAlloc (bRoot (g,0) (10+i) 6) 6).1,ms++[(bAlloc (bRoot (g,0) (10+i) 6) 6).2]):=fun g=>rfl
 have key3:∀ g:HM,bAlloc (g,0) 6=((g.AllocH 0 1 6,g.AllocE 0 1 6),g.AllocO 0 1 6):=fun g=>rfl
 rw [key2,key] at e
 have e1:h.AllocE 0 1 6=0:=Classical.byContradiction fun q=>by
  have d:(bAlloc ((h.AllocH 0 1 6).setRootH ((10+i:Nat):Int) (h.AllocO 0 1 6),h.AllocE 0 1 6) 6).1.2=0:=by
   have:=congrArg (fun x:QS=>x.1.2) e
   exact this
  unfold bAlloc at d
  rw [if_pos (show ((h.AllocH 0 1 6).setRootH ((10+i:Nat):Int) (h.AllocO 0 1 6),h.AllocE 0 1 6).2≠0 from q)] at d
  exact q d
 have h1:=fun s=>res_six e1 s
 rw [show h.AllocE 0 1 6=0 from e1,key3] at e
 have hsl:=fun s=>res_setRoot (h.AllocH 0 1 6) s ((10+i:Nat):Int) (h.AllocO 0 1 6)
 have hll:((h.AllocH 0 1 6).setRootH ((10+i:Nat):Int) (h.AllocO 0 1 6)).words.length=(h.AllocH 0 1 6).words.length:=setRoot_len ..
 generalize hg:(h.AllocH 0 1 6).setRootH ((10+i:Nat):Int) (h.AllocO 0 1 6)=g at *
 injection e with ea eb
 injection ea with ea ec
 have h2:=fun s=>res_six ec s
 rw [ea] at h2
 have hl1:=(h1 0).1
 have hl2:=(h2 0).1
 have hb:∀ s,h.words.length+3+6≤s→bRoot (h.res s,0) (10+i) 6=(g.res s,0):=fun s q=>by
  obtain⟨b1,b2,b3⟩:=(h1 s).2.1 q
  rw [key,show (h.res s).AllocE 0 1 6=0 from b1,show (h.res s).AllocH 0 1 6=(h.AllocH 0 1 6).res s from b2,show (h.res s).AllocO 0 1 6=h.AllocO 0 1 6 from b3,hsl]
 refine⟨by omega,fun s hs=>?_,fun s hs1 hs2=>?_⟩
 ·show fPair ((h.res s,0),ms) i=_
  obtain⟨b1,b2,b3⟩:=(h2 s).2.1 (by omega)
  rw [key2,hb s (by omega),key3,show (g.res s).AllocE 0 1 6=0 from b1,show (g.res s).AllocH 0 1 6=h'.res s from b2,show (g.res s).AllocO 0 1 6=g.AllocO 0 1 6 from b3,eb]
 ·show (fPair ((h.res s,0),ms) i).1.2=4
  rw [key2]
  by_cases q:h.words.length+3+6≤s
  ·rw [hb s q,key3]
   exact (h2 s).2.2 (by omega)
  ·have d:(h.res s).AllocE 0 1 6=4:=(h1 s).2.2 (by omega)
   rw [key,d]
   unfold bAlloc
   rw [if_pos (show ((((h.res s).AllocH 0 1 6).setRootH ((10+i:Nat):Int) ((h.res s).AllocO 0 1 6),4):BS).2≠0 from by show (4:Nat)≠0; decide)]
theorem keepsQ_dPair (i:Nat):KeepsQ (fun q=>dPairB q i):=fun q hq=>by
 show (dPairB q i).1.2=q.1.2
 unfold dPairB
 rw [if_pos hq]
theorem stepQ_dPair (i:Nat) (h:HM) (ms:List Nat) (h':HM) (ms':List Nat) (e:dPairB ((h,0),ms) i=((h',0),ms')):StepQ (fun q=>dPairB q i) h ms h' ms':=by
 have key:∀ g:HM,dPairB ((g,0),ms) i=if pairE g≠0 then ((g,pairE g),ms) else ((((g.AllocH 0 1 6).AllocH 0 1 6).setRootH (10+i:Nat) (g.AllocO 0 1 6),0),ms++[(g.AllocH 0 1 6).AllocO 0 1 6]):=fun g=>rfl
 rw [key] at e
 have e0:pairE h=0:=Classical.byContradiction fun q=>by
  rw [if_pos q] at e
  have:=congrArg (fun x:QS=>x.1.2) e
  exact q this
 rw [if_neg (fun q=>q e0)] at e
 have e1:h.AllocE 0 1 6=0:=Classical.byContradiction fun q=>by
  unfold pairE at e0
  rw [if_pos q] at e0
  exact q e0
 have e2:(h.AllocH 0 1 6).AllocE 0 1 6=0:=by
  unfold pairE at e0
  rw [if_neg (fun q=>q e1)] at e0
  exact e0
 have h1:=fun s=>res_six e1 s
 have h2:=fun s=>res_six e2 s
 injection e with ea eb
 injection ea with ea _
 have hl1:=(h1 0).1
 have hl2:=(h2 0).1
 have hl3:h'.words.length=((h.AllocH 0 1 6).AllocH 0 1 6).words.length:=by rw [← ea,setRoot_len]
 have hl1':(h.AllocH 0 1 6).words.length=h.words.length+3+6:=hl1
 have hl2':((h.AllocH 0 1 6).AllocH 0 1 6).words.length=(h.AllocH 0 1 6).words.length+3+6:=hl2
 refine⟨by omega,fun s hs=>?_,fun s hs1 hs2=>?_⟩
 ·show dPairB ((h.res s,0),ms) i=_
  obtain⟨b1,b2,b3⟩:=(h1 s).2.1 (by omega)
  obtain⟨c1,c2,c3⟩:=(h2 s).2.1 (by omega)
  have f1:(h.res s).AllocE 0 1 6=0:=b1
  have f2:(h.res s).AllocH 0 1 6=(h.AllocH 0 1 6).res s:=b2
  have f3:(h.res s).AllocO 0 1 6=h.AllocO 0 1 6:=b3
  have g1:((h.AllocH 0 1 6).res s).AllocE 0 1 6=0:=c1
  have g2:((h.AllocH 0 1 6).res s).AllocH 0 1 6=((h.AllocH 0 1 6).AllocH 0 1 6).res s:=c2
  have g3:((h.AllocH 0 1 6).res s).AllocO 0 1 6=(h.AllocH 0 1 6).AllocO 0 1 6:=c3
  have hp:pairE (h.res s)=0:=by unfold pairE; rw [if_neg (fun q=>q f1),f2,g1]
  rw [key,if_neg (fun q=>q hp),f2,g2,f3,g3,res_setRoot,ea,eb]
 ·show (dPairB ((h.res s,0),ms) i).1.2=4
  have hp:pairE (h.res s)=4:=by
   by_cases q:h.words.length+3+6≤s
   ·obtain⟨b1,b2,b3⟩:=(h1 s).2.1 q
    have f1:(h.res s).AllocE 0 1 6=0:=b1
    have f2:(h.res s).AllocH 0 1 6=(h.AllocH 0 1 6).res s:=b2
    have g1:((h.AllocH 0 1 6).res s).AllocE 0 1 6=4:=(h2 s).2.2 (by omega)
    unfold pairE
    rw [if_neg (fun q=>q f1),f2,g1]
   ·have d:(h.res s).AllocE 0 1 6=4:=(h1 s).2.2 (by omega)
    unfold pairE
    rw [if_pos (by rw [d]; decide),d]
  rw [key,if_pos (by rw [hp]; decide),hp]
theorem keeps_dRoot (i:Nat):Keeps (fun s=>dRootB s i):=fun h e he=>by
 show (dRootB (h,e) i).2=e
 unfold dRootB
 rw [if_pos he]
theorem stepR_dRoot (i:Nat) (h h':HM) (e:dRootB (h,0) i=(h',0)):StepR (fun s=>dRootB s i) h h':=by
 have key:∀ g:HM,dRootB (g,0) i=if g.AllocE 0 1 (sI i)≠0 then (g,g.AllocE 0 1 (sI i)) else (dRoot1 g i,0):=fun g=>rfl
 have k1:∀ g:HM,dRoot1 g i=if i=0 then ((((g.AllocH 0 1 (sI i)).setRootH (rI i) (g.AllocO 0 1 (sI i))).setRootH (5:Nat) (g.AllocO 0 1 (sI i))).setRootH (7:Nat) (g.AllocO 0 1 (sI i))).setRootH (9:Nat) (g.AllocO 0 1 (sI i))
  else (g.AllocH 0 1 (sI i)).setRootH (rI i) (g.AllocO 0 1 (sI i)):=fun g=>rfl
 rw [key] at e
 generalize sI i=z at *
 generalize rI i=r at *
 have e1:h.AllocE 0 1 z=0:=Classical.byContradiction fun q=>by
  rw [if_pos q] at e
  injection e with _ e
  exact q e
 rw [if_neg (fun q=>q e1)] at e
 injection e with e _
 have h1:=fun s=>res_one (n:=z) e1 s
 have hl:=(h1 0).1
 have hl3:h'.words.length=(h.AllocH 0 1 z).words.length:=by
  rw [← e,k1]
  split <;> simp only [setRoot_len]
 refine⟨by omega,fun s hs=>?_,fun s hs1 hs2=>?_⟩
 ·show dRootB (h.res s,0) i=_
  obtain⟨b1,b2,b3⟩:=(h1 s).2.1 (by omega)
  rw [key,if_neg (fun q=>q b1),k1,b2,b3,← e,k1]
  split <;> simp only [res_setRoot]
 ·show (dRootB (h.res s,0) i).2=4
  have d:=(h1 s).2.2 (by omega)
  rw [key,if_pos (by rw [d]; decide),d]
end
section
open Go.RowKit
def mxH:HM:=HM.new 1048576
set_option maxRecDepth 1000000 in
theorem ev_root1:(root1 (mxH,0) 3).2=0:=by decide +kernel
set_option maxRecDepth 1000000 in
theorem ev_root2:(root2 (root1 (mxH,0) 3) 4).2=0:=by decide +kernel
set_option maxRecDepth 1000000 in
theorem ev_pairs:(pairsN (root3 (root2 (root1 (mxH,0) 3) 4).1 3,(root2 (root1 (mxH,0) 3) 4).2) 22).1.2=0:=by decide +kernel
set_option maxRecDepth 1000000 in
theorem ev_droot:(dRootN (mxH,0) 7).2=0:=by decide +kernel
set_option maxRecDepth 1000000 in
theorem ev_dpairs:(dPairN (dRootN (mxH,0) 7) 22).1.2=0:=by decide +kernel
set_option maxRecDepth 1000000 in
theorem ev_words:(bonesB (mxH,0)).1.words=(dBones (mxH,0)).1.words:=by decide +kernel
set_option maxRecDepth 1000000 in
theorem ev_starts:(bonesB (mxH,0)).1.starts=(dBones (mxH,0)).1.starts:=by decide +kernel
set_option maxRecDepth 1000000 in
theorem ev_rest:(bonesB (mxH,0)).1.roots=(dBones (mxH,0)).1.roots∧(bonesB (mxH,0)).1.last=(dBones (mxH,0)).1.last∧(bonesB (mxH,0)).1.size=(dBones (mxH,0)).1.size:=by decide +kernel
end
section
open Go.RowKit
def chkK (h:HM):Bool:= !h.bareK && (h.ptrsK (h.rt 3) 0 && (h.ptrsK (h.rt 4) 0 && (List.range 22).all fun k=>h.ptrsK (h.rt (10+k)) 6))
set_option maxRecDepth 1000000 in
theorem ev_chk:chkK (dBones (mxH,0)).1=true:=by decide +kernel
end
end Go.Proofs.YtdoahpflemgaeaaGreatDoor
