import Derived.Test.YtlkahgagmfhdaaaGreatDoorRound
import Derived.OrdersHeld
set_option linter.unusedVariables false
set_option linter.unusedSectionVars false
open Go.Region renaming ready→ae,wanted→af,Mode→ag,binds→ai,noSelect_spec→aq,free_spec→ay,noSelect→aA,free→aD
open Bool renaming and_eq_true→ah,not_eq_true'→aw
open List renaming mem_cons_of_mem→aj,mem_cons→ar,mem_cons_self→au,not_mem_nil→az
open Array renaming setIfInBounds_comm→ak,replicate→aB
namespace Go.Proofs.YtlkahgagmfhdaaaGreatDoor
section
open Go.RowKit Go.Sort
section
variable {P:Program}{md:ag}{ops:Array Oper}{Q:Exit->Act->World->Prop}{S:World->Prop}{z:Nat}
def jo (P:Program)(md:ag)(ops:Array Oper)(Q:Exit->Act->World->Prop)(S:World->Prop)(z:Nat):Nat->Array Bool->Act->World->Prop
 | 0,d,a,w=>ae md ops d=[]/\Q .normal a w
 | f+1,d,a,w=>(ae md ops d=[]->Q .normal a w)/\
   ∀ i∈ae md ops d,wpOp P ops Q i (fun a' w'=>((d.setIfInBounds i true).getD z true=false->S w')/\jo P md ops Q S z f (d.setIfInBounds i true) a' w') a w
theorem qG:∀ (f:Nat) (d:Array Bool) (a:Act) (w:World),jo P md ops Q S z f d a w->wpAny P md ops Q f d a w
 | 0,_,_,_,h=>h
 | f+1,d,_,_,h=>⟨h.1,fun i hi=>wpOp_mono (fun a' w' h'=>qG f (d.setIfInBounds i true) a' w' h'.2) (h.2 i hi)⟩
theorem jX {d:Array Bool}{i:Nat}(h:i∈ae md ops d):ae md ops d≠[]:=fun e=>by rw[e]at h;cases h
def Ba (md:ag)(ops:Array Oper)(z i:Nat):Bool:=match ops[z]? with|some o=>o.after.any (fun e=>ai md e && e.on == i)|none=>false
theorem Hz {i j:Nat}{d:Array Bool}(hz:Ba md ops z i=true)(hi:d.getD i true=false)(hj:j∈ae md ops d):z≠j:=by
 rintro rfl;obtain⟨_,o,ho,hall⟩:=mem_ready.1 hj;unfold Ba at hz;rw[ho]at hz;simp only[Array.any_eq_true']at hz;obtain⟨e,he,h2⟩:=hz;simp only[ah,beq_iff_eq]at h2;have h1:=hall e he h2.1;rw[h2.2,getD_both hi]at h1;cases h1
theorem Ky {i:Nat}{oi:Oper}{v:Value}(hi:ops[i]? = some oi)(hsel:∀ (j:Nat) (o:Oper) cs b,ops[j]? = some o->o.op≠ .select cs b)
 (hQ:∀ c a w,Q (.panic c) (a.put oi.dst v) w->Q (.panic c) a w)(hz:Ba md ops z i=true)(Zg:z≠i):
 ∀ (f:Nat) (d:Array Bool) (a:Act) (w:World),
   (∀ j oj,ops[j]? = some oj->j≠i->d.getD j true=false->(∀ e∈oj.after,ai md e=true->e.on≠i)->oi.apart ops oj=true)->
   i∈ae md ops d->YieldsIf P ops S oi v a->S w->d.getD z true=false->
   jo P md ops Q S z f (d.setIfInBounds i true) (a.put oi.dst v) w->jo P md ops Q S z (f+1) d a w
 | 0,d,a,w,_,hr,hy,hS,hzd,H=>by
   refine⟨fun h=>absurd h (jX hr),fun j hj=>?_⟩;by_cases hji:j=i
   .subst hji;exact hy.wpOp hi hS ⟨fun _=>hS,H⟩
   .have h2:=ready_mono hj hji;exact absurd H.1 (jX h2)
 | f + 1,d,a,w,hfree,hr,hy,hS,hzd,H=>by
   refine⟨fun h=>absurd h (jX hr),fun j hj=>?_⟩;by_cases hji:j=i
   .subst hji;exact hy.wpOp hi hS ⟨fun _=>hS,H⟩
   .obtain⟨hjun,oj,hoj,hall⟩:=mem_ready.1 hj;have hir:=(mem_ready.1 hr).1;have hzj:z≠j:=Hz hz hir hj;have hnot:∀ e∈oj.after,ai md e=true->e.on≠i:=fun e he hb heq=>by
     have h1:=hall e he hb;rw[heq,getD_both hir]at h1;cases h1
    have h1:=wpOp_putIf hoj (hfree j oj hoj hji hjun hnot) (fun cs b=>hsel i oi cs b hi) (fun cs b=>hsel j oj cs b hoj) hQ hy (H.2 j (ready_mono hj hji));have hri:i∈ae md ops (d.setIfInBounds j true):=ready_mono hr (Ne.symm hji);have hcm:(d.setIfInBounds i true).setIfInBounds j true=(d.setIfInBounds j true).setIfInBounds i true:=ak _ _ (Ne.symm hji);refine wpOp_mono (fun a' w' h3=>?_) h1;rw[hcm]at h3;have hz2:(d.setIfInBounds j true).getD z true=false:=(by rw[getD_set_ne true (Ne.symm hzj)];exact hzd);have hS':=h3.2.1 (by rw[getD_set_ne true (Ne.symm Zg)];exact hz2);refine⟨fun _=>hS',Ky hi hsel hQ hz Zg f (d.setIfInBounds j true) a' w' (fun k ok hk hki hun hno=>?_) hri h3.1 hS' hz2 h3.2.2⟩;refine hfree k ok hk hki ?_ hno;by_cases hjk:j=k
    .subst hjk;exact hjun
    .rw[getD_set_ne true hjk]at hun;exact hun
def RN (md:ag)(ops:Array Oper)(z i:Nat)(d:Array Bool):Bool:=
 aA ops && aD md ops d i && (ae md ops d).contains i && Ba md ops z i && (z != i) && !(d.getD z true)
theorem Xq (i:Nat){oi:Oper}{v:Value}{f:Nat}{d:Array Bool}{a:Act}{w:World}(hi:ops[i]? = some oi)(hB:RN md ops z i d=true)
 (hQ:∀ c a w,Q (.panic c) (a.put oi.dst v) w->Q (.panic c) a w)(hS:S w)(hy:YieldsIf P ops S oi v a)
 (h:jo P md ops Q S z f (d.setIfInBounds i true) (a.put oi.dst v) w):jo P md ops Q S z (f+1) d a w:=by
 unfold RN at hB;simp only[ah,bne_iff_ne,ne_eq,aw]at hB;obtain⟨⟨⟨⟨⟨h1,h2⟩,h3⟩,h4⟩,h5⟩,h6⟩:=hB;exact Ky hi (aq h1) hQ h4 h5 f d a w (ay hi h2) (by simpa using h3) hy hS h6 h
theorem eT (i:Nat){oi:Oper}{v:Value}{f:Nat}{d:Array Bool}{a:Act}{w:World}(hi:ops[i]? = some oi)(hB:RN md ops z i d=true)
 (hQ:∀ c a w,Q (.panic c) (a.put oi.dst v) w->Q (.panic c) a w)(hS:S w)(hw:af oi (yielded ops a.tmps)=true)(hy:∀ w,S w->(execOp a.eval oi).run P w= .ok (.value v) w)
 (h:jo P md ops Q S z f (d.setIfInBounds i true) (a.put oi.dst v) w):jo P md ops Q S z (f+1) d a w:=
 Xq i hi hB hQ hS (.inl ⟨hw,hy⟩) h
theorem fh (j:Nat){o:Oper}{f:Nat}{d:Array Bool}{a:Act}{w:World}(hr:ae md ops d=[j])(ho:ops[j]? = some o)(hg:o.guard=none)
 (h:∀ K:Act->World->Prop,(∀ a' w',((d.setIfInBounds j true).getD z true=false->S w')->jo P md ops Q S z f (d.setIfInBounds j true) a' w'->K a' w')->o.wp P a w K Q):
 jo P md ops Q S z (f+1) d a w:=by
 refine⟨fun e=>(by rw[hr]at e;cases e),fun i hi=>?_⟩;rw[hr]at hi;simp only[ar,az,or_false]at hi;subst hi;unfold wpOp;simp only[ho];have hw:af o (yielded ops a.tmps)=true:=by simp[af,hg]
 rw[if_pos hw];exact .inl (h _ fun a' w' h1 h2=>⟨h1,h2⟩)
theorem Pq (i j:Nat){oi oj:Oper}{f:Nat}{d:Array Bool}{a:Act}{w:World}(hr:ae md ops d=[i,j])(hoi:ops[i]? = some oi)(hoj:ops[j]? = some oj)(hgi:oi.guard=none)(hgj:oj.guard=none)
 (h1:∀ K:Act->World->Prop,(∀ a' w',((d.setIfInBounds i true).getD z true=false->S w')->jo P md ops Q S z f (d.setIfInBounds i true) a' w'->K a' w')->oi.wp P a w K Q)
 (h2:∀ K:Act->World->Prop,(∀ a' w',((d.setIfInBounds j true).getD z true=false->S w')->jo P md ops Q S z f (d.setIfInBounds j true) a' w'->K a' w')->oj.wp P a w K Q):
 jo P md ops Q S z (f+1) d a w:=by
 refine⟨fun e=>(by rw[hr]at e;cases e),fun k hk=>?_⟩;rw[hr]at hk;simp only[ar,az,or_false]at hk;unfold wpOp;rcases hk with rfl|rfl
 .simp only[hoi];rw[if_pos (by simp[af,hgi])];exact .inl (h1 _ fun a' w' h1 h2=>⟨h1,h2⟩)
 .simp only[hoj];rw[if_pos (by simp[af,hgj])];exact .inl (h2 _ fun a' w' h1 h2=>⟨h1,h2⟩)
theorem g_ {d:Array Bool}{a:Act}{w:World}(hr:ae md ops d=[])(h:Q .normal a w):∀ f,jo P md ops Q S z f d a w
 | 0=>⟨hr,h⟩
 | f+1=>⟨fun _=>h,fun i hi=>by rw[hr]at hi;cases hi⟩
def Calm (Q:Exit->Act->World->Prop):Exit->Act->World->Prop
 | .normal,a,w=>Q .normal a w
 | _,_,_=>False
theorem Calm.imp:∀ (e:Exit) (a:Act) (w:World),Calm Q e a w->Q e a w:=fun e a w h=>by cases e <;> first|exact h|exact h.elim
theorem iB (z:Nat)(S:World->Prop){id:Nat}{a:Act}{w:World}(hm:P.follows .mixedOrders=true)
 (h:jo P .any ops (Calm Q) S z ops.size (aB ops.size false) a w.drew):(Code.region id ops true).wp P Q a w:=
 wp_mono (wp_region_any hm (qG _ _ _ _ h)) Calm.imp
theorem iL (z:Nat)(S:World->Prop){id l n:Nat}{a:Act}{w:World}(hm:P.follows .mixedOrders=true)(hd:noDefer ops=true)
 (h:jo P .any ops (Calm Q) S z ops.size (aB ops.size false) a w.drew):(Code.region id ops true).wpIn (Fence.wide.inRound l) n P Q a w:=
 wpIn_mono (wpIn_region_any hm (wpAnyIn_of_wpAny hd (by rintro⟨a,w,hh⟩;exact hh) _ _ _ _ (qG _ _ _ _ h))) Calm.imp
end
end
section
open Go.RowKit Go.Sort
section
variable {P:Program}{md:ag}{ops:Array Oper}{Q:Exit->Act->World->Prop}{S:World->Prop}{z:Nat}
def chainB (md:ag)(ops:Array Oper):Nat->List Nat->Bool
 | _,[]=>true
 | i,c :: cs=>Ba md ops c i && chainB md ops c cs
theorem qK {d:Array Bool}:∀ {i:Nat} {ch:List Nat},chainB md ops i ch=true->d.getD i true=false->(∀ c∈ch,d.getD c true=false)->∀ j∈ae md ops d,j∉ch
 | _,[],_,_,_,_,_=>by simp
 | i,c :: cs,h,hi,hc,j,hj=>by
   unfold chainB at h;simp only[ah]at h;intro hm;rcases ar.1 hm with rfl|hm
   .exact Hz h.1 hi hj rfl
   .exact qK h.2 (hc c (au ..)) (fun c' h'=>hc c' (aj _ h')) j hj hm
theorem Fs {i:Nat}{oi:Oper}{v:Value}{ch:List Nat}(hi:ops[i]? = some oi)(hsel:∀ (j:Nat) (o:Oper) cs b,ops[j]? = some o->o.op≠ .select cs b)
 (hQ:∀ c a w,Q (.panic c) (a.put oi.dst v) w->Q (.panic c) a w)(hch:chainB md ops i ch=true)(hz:z∈ch)(Zg:z≠i):
 ∀ (f:Nat) (d:Array Bool) (a:Act) (w:World),
   (∀ j oj,ops[j]? = some oj->j≠i->d.getD j true=false->(∀ e∈oj.after,ai md e=true->e.on≠i)->oi.apart ops oj=true)->
   i∈ae md ops d->YieldsIf P ops S oi v a->S w->(∀ c∈ch,d.getD c true=false)->
   jo P md ops Q S z f (d.setIfInBounds i true) (a.put oi.dst v) w->jo P md ops Q S z (f+1) d a w
 | 0,d,a,w,_,hr,hy,hS,hzd,H=>by
   refine⟨fun h=>absurd h (jX hr),fun j hj=>?_⟩;by_cases hji:j=i
   .subst hji;exact hy.wpOp hi hS ⟨fun _=>hS,H⟩
   .have h2:=ready_mono hj hji;exact absurd H.1 (jX h2)
 | f + 1,d,a,w,hfree,hr,hy,hS,hzd,H=>by
   refine⟨fun h=>absurd h (jX hr),fun j hj=>?_⟩;by_cases hji:j=i
   .subst hji;exact hy.wpOp hi hS ⟨fun _=>hS,H⟩
   .obtain⟨hjun,oj,hoj,hall⟩:=mem_ready.1 hj;have hir:=(mem_ready.1 hr).1;have hjc:j∉ch:=qK hch hir hzd j hj;have hzj:z≠j:=fun e=>hjc (e ▸ hz);have hnot:∀ e∈oj.after,ai md e=true->e.on≠i:=fun e he hb heq=>by
     have h1:=hall e he hb;rw[heq,getD_both hir]at h1;cases h1
    have h1:=wpOp_putIf hoj (hfree j oj hoj hji hjun hnot) (fun cs b=>hsel i oi cs b hi) (fun cs b=>hsel j oj cs b hoj) hQ hy (H.2 j (ready_mono hj hji));have hri:i∈ae md ops (d.setIfInBounds j true):=ready_mono hr (Ne.symm hji);have hcm:(d.setIfInBounds i true).setIfInBounds j true=(d.setIfInBounds j true).setIfInBounds i true:=ak _ _ (Ne.symm hji);refine wpOp_mono (fun a' w' h3=>?_) h1;rw[hcm]at h3;have hz2:∀ c∈ch,(d.setIfInBounds j true).getD c true=false:=fun c hc=>by
     rw[getD_set_ne true (show j≠c from fun e=>by subst e;exact hjc hc)];exact hzd c hc
    have hS':=h3.2.1 (by rw[getD_set_ne true (Ne.symm Zg)];exact hz2 z hz);refine⟨fun _=>hS',Fs hi hsel hQ hch hz Zg f (d.setIfInBounds j true) a' w' (fun k ok hk hki hun hno=>?_) hri h3.1 hS' hz2 h3.2.2⟩;refine hfree k ok hk hki ?_ hno;by_cases hjk:j=k
    .subst hjk;exact hjun
    .rw[getD_set_ne true hjk]at hun;exact hun
def V0 (md:ag)(ops:Array Oper)(z i:Nat)(ch:List Nat)(d:Array Bool):Bool:=
 aA ops && aD md ops d i && (ae md ops d).contains i && chainB md ops i ch && (ch.contains z) && (z != i) && ch.all (fun c=> !(d.getD c true))
theorem fW (i:Nat)(ch:List Nat){oi:Oper}{v:Value}{f:Nat}{d:Array Bool}{a:Act}{w:World}(hi:ops[i]? = some oi)(hB:V0 md ops z i ch d=true)
 (hQ:∀ c a w,Q (.panic c) (a.put oi.dst v) w->Q (.panic c) a w)(hS:S w)(hw:af oi (yielded ops a.tmps)=true)(hy:∀ w,S w->(execOp a.eval oi).run P w= .ok (.value v) w)
 (h:jo P md ops Q S z f (d.setIfInBounds i true) (a.put oi.dst v) w):jo P md ops Q S z (f+1) d a w:=by
 unfold V0 at hB;simp only[ah,bne_iff_ne,ne_eq,List.all_eq_true,aw]at hB;obtain⟨⟨⟨⟨⟨⟨h1,h2⟩,h3⟩,h4⟩,h5⟩,h6⟩,h7⟩:=hB;exact Fs hi (aq h1) hQ h4 (by simpa using h5) h6 f d a w (ay hi h2) (by simpa using h3) (.inl ⟨hw,hy⟩) hS h7 h
end
section
variable {P:Program}{l n:Nat}{Q:Exit->Act->World->Prop}
theorem lF {ops:Array Oper}(hq:¬ LetsOut Q):∀ (ll:List Oper) (a:Act) (w:World),(∀ o∈ll,∀ c,o.op≠ .defer c)->wpList P ops Q ll a w->wpListIn (Fence.wide.inRound l) n P ops Q ll a w
 | [],_,_,_,h=>h
 | o :: rest,a,w,hd,h=>by
   unfold wpList at h;unfold wpListIn;split
   .rename_i hw;rw[if_pos hw]at h;exact Oper.wpIn_mono (fun a w=>lF hq rest a w (fun o' l_=>hd o' (aj _ l_))) (oper_wpIn (hd o (au ..)) (h.resolve_right fun hh=>hq hh.2))
   .rename_i hw;rw[if_neg hw]at h;exact⟨fun _ _=>trivial,lF hq rest _ _ (fun o' l_=>hd o' (aj _ l_)) h⟩
theorem wn {id:Nat}{a:Act}{w:World}{ll:List Oper}(hd:noDefer ll.toArray=true)(hq:¬ LetsOut Q)(h:wpList P ll.toArray Q ll a w):(Code.region id ll.toArray false).wpIn (Fence.wide.inRound l) n P Q a w:=
 wpIn_region_lit (lF hq ll a w (fun o ho c=>by
  obtain⟨i,hi,e⟩:=List.getElem_of_mem ho;exact noDefer_at hd (i:=i) (by simp[hi,e]) c) h)
end
end
end Go.Proofs.YtlkahgagmfhdaaaGreatDoor
