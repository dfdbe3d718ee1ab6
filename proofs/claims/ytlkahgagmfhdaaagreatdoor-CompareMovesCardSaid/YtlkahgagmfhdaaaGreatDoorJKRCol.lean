import Derived.Test.YtlkahgagmfhdaaaGreatDoorJKCol
import Derived.Test.YtlkahgagmfhdaaaGreatDoorJMarks
set_option linter.unusedVariables false
set_option linter.unusedSimpArgs false
set_option linter.unusedSectionVars false
open List renaming getElem_mem→ae,getElem?_eq_getElem→ag,getD_eq_getElem?_getD→ah,mem_cons_of_mem→ai,mem_cons→aj,mem_cons_self→ak,flatMap_cons→aq,flatMap_map→ar,mem_range→aw,range→ax
open Go.Oper renaming semAt_some→af
namespace Go.Proofs.YtlkahgagmfhdaaaGreatDoor
section
open Go.RowKit
structure AkB where
 bT:Nat
 bB:Nat
 bX:Nat
 bY:Nat
 gT:Nat
 gB:Nat
end
section
open Go.RowKit
section
variable {h:HM}{l:List Ob}
theorem PJ {k:Nat}(hk:k<(fH h l).length):(gZ h l)[k]'(by rw[o9];exact hk)=j6 (eV h l) (kQ h l) ((fH h l)[k]).2:=by
 unfold gZ;rw[List.getElem_map]
theorem EE {o:Nat}(ho:o∈gV h l):∃ k,∃ hk:k<(fH h l).length,((fH h l)[k]).1=o/\lX (eV h l) o=2*eG ((gZ h l).take k):=by
 rw[<-jW]at ho;obtain⟨p,hp,rfl⟩:=List.mem_map.1 ho;obtain⟨k,hk,rfl⟩:=List.getElem_of_mem hp;exact⟨k,hk,rfl,zt (by rw[jA,<-jW];exact rE h l) (G_ h l hk)⟩
end
end
section
open Go.RowKit Go.Sort
attribute [local go_sem] af
theorem aew {h:HM}{l:List Ob}(G:h.Good l){j:Nat}(hj:j<l.length):h.isB (2*eG (l.take j))=true:=(G.laid.apr _).2 ⟨l.take j,l[j],l.drop (j+1),kj l j hj,rfl⟩
end
section
open Go.RowKit
section
variable {h:HM}{l:List Ob}
theorem PT {x y:Nat}(hx:x∈gV h l)(hy:y∈gV h l)(he:lX (eV h l) x=lX (eV h l) y):x=y:=by
 obtain⟨k,hk,e1,g1⟩:=EE hx;obtain⟨m,hm,e2,g2⟩:=EE hy;have p_:k<(gZ h l).length:=by rw[o9];exact hk
 have hm':m<(gZ h l).length:=by rw[o9];exact hm
 have h1:(eZ (gZ h l))[k]'(by rw[fZ];exact p_)=(eZ (gZ h l))[m]'(by rw[fZ];exact hm'):=by
  have a1:=nu p_;have a2:=nu hm';rw[ag (by rw[fZ];exact p_)]at a1;rw[ag (by rw[fZ];exact hm')]at a2;rw[Option.some.inj a1,Option.some.inj a2,<-g1,<-g2,he]
 have h2:=(List.getElem_inj (rN (gZ h l))).1 h1;subst h2;rw[<-e1,<-e2]
theorem Gz (G:h.Good l){x:Nat}(hx:x∈gV h l):∃ j,∃ hj:j<l.length,∃ k,∃ hk:k<(gZ h l).length,x=2*eG (l.take j)/\lX (eV h l) x=2*eG ((gZ h l).take k)/\(gZ h l)[k]=j6 (eV h l) (kQ h l) l[j]/\
 (∀ y∈(l[j]).x.cls :: (if (l[j]).x.fmt=1 then (l[j]).fs else []),eR y=2->y∈gV h l):=by
 obtain⟨k,hkz,e1,g1⟩:=EE hx;obtain⟨j,hj,e2,e3,_⟩:=nk (ae hkz);rw[e1]at e2;have p_:k<(gZ h l).length:=by rw[o9];exact hkz
 refine⟨j,hj,k,p_,e2,g1,by rw[PJ hkz,e3],fun y hy hk2=>?_⟩;refine vC G (ae hkz) ?_ hk2;rw[zI G (ae hkz),e3];exact hy
theorem KL {g:HM}{L:List Ob}(G:g.Good L){j:Nat}(hj:j<L.length){i:Nat}(hi:i<(L[j]).fs.length):fw g (2*eG (L.take j)) i=(L[j]).fs.getD i 0:=by
 have L':=G.laid;rw[kj L j hj]at L';exact L'.aqp i hi
theorem Hf {pl:List (Nat × Nat)}{void:Nat}{b:Ob}(hp:b.x.apb=false):(j6 pl void b).fs=b.fs:=by
 unfold j6;rw[hp];rfl
theorem NF {pl:List (Nat × Nat)}{void:Nat}{b:Ob}(hp:b.x.apb=true):(j6 pl void b).fs=b.fs.map (tW pl void):=by
 unfold j6;rw[hp];rfl
end
end
section
open Go.RowKit
section
variable {h:HM}{l:List Ob}
theorem KU {g:HM}{L:List Ob}(G:g.Good L){j:Nat}(hj:j<L.length):g.hd (2*eG (L.take j)/2)=(L[j]).x:=by
 have L':=G.laid;rw[kj L j hj]at L';rw[fT,L'.apF]
theorem CM {g:HM}{L:List Ob}(G:g.Good L){j:Nat}(hj:j<L.length):g.fields (2*eG (L.take j))=(L[j]).fs:=by
 have L':=G.laid;rw[kj L j hj]at L';exact L'.apE
theorem PR (G:h.Good l)(void:Nat){x:Nat}(hx:eR x=2->x∈gV h l):tW (eV h l) void x=fC (eV h l) x:=by
 refine PS ?_;unfold lV;exact decide_eq_false fun hd=>hd.2 (by rw[jA];exact hx hd.1)
theorem n9 {pl:List (Nat × Nat)}{x:Nat}(hk:eR x=2):fC pl x=lX pl x:=by unfold fC;rw[if_pos hk]
theorem sy (G:h.Good l){x:Nat}(hx:x∈gV h l):eR x=2:=vu (UA G (List.mem_filter.1 hx).1)
theorem Xt (G:h.Good l):Mv (fun x=>x∈gV h l) (fC (eV h l)):=by
 refine⟨fun x hx=>?_,fun x y hx hy he=>?_,fun x hx=>?_⟩
 .by_cases hk:eR x=2
  .rw[n9 hk,hk];exact vu (Er G (hx hk))
  .unfold fC;rw[if_neg hk]
 .rw[n9 (sy G hx),n9 (sy G hy)]at he;exact PT hx hy he
 .unfold fC;rw[if_neg hx]
theorem Jz (G:h.Good l)(hw:∀ b∈l,b.x.fmt≠4){x:Nat}(hx:x∈gV h l){j:Nat}(hj:j<l.length)
 (hh:∀ y∈(l[j]).x.cls :: (if (l[j]).x.fmt=1 then (l[j]).fs else []),eR y=2->y∈gV h l):
 ∀ y∈(l[j]).x.cls :: (if (l[j]).x.apb=true then (l[j]).fs else []),eR y=2->y∈gV h l:=by
 intro y hy;refine hh y ?_;rcases aj.1 hy with e|hy
 .exact aj.2 (.inl e)
 .refine aj.2 (.inr ?_);by_cases hp:(l[j]).x.apb=true
  .rw[if_pos hp]at hy;have h4:=hw _ (ae hj);have h1:(l[j]).x.fmt=1:=by
    unfold Hd.apb at hp;simp at hp;omega
   rw[if_pos h1];exact hy
  .rw[if_neg hp]at hy;cases hy
theorem J5 (pl:List (Nat × Nat))(void:Nat)(b:Ob):(j6 pl void b).x.apb=b.x.apb:=rfl
theorem TP (G:h.Good l)(hw:∀ b∈l,b.x.fmt≠4):Vm (fun x=>x∈gV h l) (fC (eV h l)) h.nmN (jP h l).nmN h.ao_ (jP h l).ao_:=by
 have G':=rv G
 have key:∀ o,o∈gV h l->(jP h l).nmN (fC (eV h l) o)=h.nmN o/\∀ k,k<h.nmN o->(jP h l).ao_ (fC (eV h l) o) k=fC (eV h l) (h.ao_ o k)/\(eR (h.ao_ o k)=2->h.ao_ o k∈gV h l):=by
  intro o ho;obtain⟨j,hj,k,hk,e1,e2,e3,hh⟩:=Gz G ho;have hn:=Jz G hw ho hj hh;rw[n9 (sy G ho),e2,e1];have d1:=KU G hj;have d2:=KU G' hk;rw[e3]at d2;have ok:=G.laid.ok _ (ae hj);refine⟨?_,fun i hi=>?_⟩
  .unfold HM.nmN;rw[d1,d2,J5];rfl
  .unfold HM.nmN at hi;rw[d1]at hi;unfold HM.ao_;by_cases h0:i=0
   .rw[if_pos h0,if_pos h0,d1,d2];exact⟨rfl,hn _ (ak ..)⟩
   .rw[if_neg h0,if_neg h0];by_cases hp:(l[j]).x.apb=true
    .rw[if_pos hp]at hi;have hi':i-1<(l[j]).fs.length:=(by rw[<-ok.size];omega);have hm:(l[j]).fs.getD (i-1) 0∈(l[j]).fs:=by
      rw[ah,ag hi'];exact ae _
     have hv:eR ((l[j]).fs.getD (i-1) 0)=2->(l[j]).fs.getD (i-1) 0∈gV h l:=hn _ (by
      rw[if_pos hp];exact ai _ hm)
     rw[KL G hj hi',KL G' hk (by rw[e3,pH];exact hi'),e3,NF hp];refine⟨?_,hv⟩;rw[<-PR G (kQ h l) hv,ah,List.getElem?_map,ah,ag hi'];rfl
    .rw[if_neg hp]at hi;omega
 exact⟨Xt G,fun o ho=>(key o ho).1,fun o ho k hk=>((key o ho).2 k hk).1,fun o ho k hk=>((key o ho).2 k hk).2⟩
theorem Lj {P:Nat->Prop}{f:Nat->Nat}(M:Mv P f){L:List Nd}(hl:∀ x∈eL L,P x){x:Nat}(hx:eR x=2->P x):ja (yE f L) (f x)=ja L x:=by
 unfold ja;rw[M.kind x hx];by_cases h0:eR x=0
 .rw[if_pos h0,if_pos h0]
 .rw[if_neg h0,if_neg h0];by_cases h2:eR x=2
  .rw[if_pos h2,if_pos h2,UF M hl (hx h2)]
  .rw[if_neg h2,if_neg h2,M.small x h2]
theorem lW {f g:Nat->List Nat}:∀ {xs:List Nat},(∀ x∈xs,f x=g x)->xs.flatMap f=xs.flatMap g
 | [],_=>rfl
 | x :: xs,h=>by
   rw[aq,aq,h x (ak ..),lW fun y hy=>h y (ai _ hy)]
theorem Mc (G:h.Good l)(hw:∀ b∈l,b.x.fmt≠4)(ser:Bool){fr:List Nat}(hf:∀ x∈fr,eR x=2->x∈gV h l){L:List Nd}(hL:f_ h.nmN h.ao_ fr=some L):
 f_ (jP h l).nmN (jP h l).ao_ (fr.map (fC (eV h l)))=some (yE (fC (eV h l)) L)/\
 kF (jP h l) ser (fr.map (fC (eV h l))) (yE (fC (eV h l)) L)=kF h ser fr L:=by
 have M:=TP G hw;have G':=rv G;have hP:=NM M hf hL;refine⟨by rw[RH M hf,hL];rfl,?_⟩;unfold kF;congr 1
 .unfold iK;rw[ar];exact lW fun x hx=>by
   show fq (ja _ (fC (eV h l) x))=_;rw[Lj M.mv hP (hf x hx)];rfl
 .rw[wZ,ar];refine lW fun o ho=>?_;have KZ:=hP o ho;have Jo:(jP h l).nmN (fC (eV h l) o)=h.nmN o:=M.num o KZ;have acJ:iK (yE (fC (eV h l)) L) ((jP h l).ao_ (fC (eV h l) o)) (ax ((jP h l).nmN (fC (eV h l) o)))=iK L (h.ao_ o) (ax (h.nmN o)):=by
   rw[Jo];unfold iK;refine lW fun k hk=>?_;have hk:=aw.1 hk;rw[M.nam o KZ k hk,Lj M.mv hP (M.shut o KZ k hk)]
  unfold HM.apM;rw[acJ];obtain⟨j,hj,k,hk,e1,e2,e3,hh⟩:=Gz G KZ;have d1:=KU G hj;have d2:=KU G' hk;rw[e3]at d2;have e2':fC (eV h l) o=2*eG ((gZ h l).take k):=(n9 (sy G KZ)).trans e2;have ab5:(jP h l).apA ser (fC (eV h l) o)=h.apA ser o:=by
   rw[e2',e1];unfold HM.apA HM.ap0;rw[d1,d2];rfl
  have abI:(jP h l).apz (fC (eV h l) o)=h.apz o:=by
   rw[e2',e1];unfold HM.apz;rw[d1,d2];have Qd:(j6 (eV h l) (kQ h l) l[j]).x.fmt=(l[j]).x.fmt:=rfl;have hsz:(j6 (eV h l) (kQ h l) l[j]).x.size=(l[j]).x.size:=rfl;rw[Qd,hsz];by_cases h3:(l[j]).x.fmt=3
   .rw[if_pos h3,if_pos h3];have hp:(l[j]).x.apb=false:=(by unfold Hd.apb;simp[h3]);have ok:=G.laid.ok _ (ae hj);unfold HM.cwB;refine lW fun i hi=>?_;have hi:=aw.1 hi;have hi':i<(l[j]).fs.length:=(by rw[<-ok.size];exact hi);rw[KL G hj hi',KL G' hk (by rw[e3,pH];exact hi'),e3,Hf hp]
   .rw[if_neg h3,if_neg h3];by_cases h2:(l[j]).x.fmt=2
    .rw[if_pos h2,if_pos h2];have hp:(l[j]).x.apb=false:=(by unfold Hd.apb;simp[h2]);unfold HM.apO;rw[d1,d2,CM G hj,CM G' hk,e3,Hf hp];rfl
    .rw[if_neg h2,if_neg h2]
  rw[ab5,abI]
end
end
end Go.Proofs.YtlkahgagmfhdaaaGreatDoor
