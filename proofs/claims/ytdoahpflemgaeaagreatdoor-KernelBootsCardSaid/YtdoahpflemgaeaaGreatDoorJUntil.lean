import Derived.Test.YtdoahpflemgaeaaGreatDoorRound
import Derived.OrdersHeld
set_option linter.unusedVariables false
set_option linter.unusedSimpArgs false
set_option linter.unusedSectionVars false
namespace Go.Proofs.YtdoahpflemgaeaaGreatDoor
section
open Go.RowKit Go.Sort
section
variable {P:Program} {md:Region.Mode} {ops:Array Oper} {Q:Exit→Act→World→Prop} {S:World→Prop} {z:Nat}
def wpAnyU (P:Program) (md:Region.Mode) (ops:Array Oper) (Q:Exit→Act→World→Prop) (S:World→Prop) (z:Nat):Nat→Array Bool→Act→World→Prop
 | 0,d,a,w=>Region.ready md ops d=[]∧Q .normal a w
 | f+1,d,a,w=>(Region.ready md ops d=[]→Q .normal a w)∧
   ∀ i∈Region.ready md ops d,wpOp P ops Q i (fun a' w'=>((d.setIfInBounds i true).getD z true=false→S w')∧wpAnyU P md ops Q S z f (d.setIfInBounds i true) a' w') a w
theorem wpAny_of_U:∀ (f:Nat) (d:Array Bool) (a:Act) (w:World),wpAnyU P md ops Q S z f d a w→wpAny P md ops Q f d a w
 | 0,_,_,_,h=>h
 | f+1,d,_,_,h=>⟨h.1,fun i hi=>wpOp_mono (fun a' w' h'=>wpAny_of_U f (d.setIfInBounds i true) a' w' h'.2) (h.2 i hi)⟩
theorem not_ready_nil {d:Array Bool} {i:Nat} (h:i∈Region.ready md ops d):Region.ready md ops d≠[]:=fun e=>by rw [e] at h; cases h
def waitsB (md:Region.Mode) (ops:Array Oper) (z i:Nat):Bool:=match ops[z]? with | some o=>o.after.any (fun e=>Region.binds md e && e.on == i) | none=>false
theorem waits_ne {i j:Nat} {d:Array Bool} (hz:waitsB md ops z i=true) (hi:d.getD i true=false) (hj:j∈Region.ready md ops d):z≠j:=by
 rintro rfl
 obtain⟨_,o,ho,hall⟩:=mem_ready.1 hj
 unfold waitsB at hz
 rw [ho] at hz
 simp only [Array.any_eq_true'] at hz
 obtain⟨e,he,h2⟩:=hz
 simp only [Bool.and_eq_true,beq_iff_eq] at h2
 have h1:=hall e he h2.1
 rw [h2.2,getD_both hi] at h1
 cases h1
theorem U_one (j:Nat) {o:Oper} {f:Nat} {d:Array Bool} {a:Act} {w:World} (hr:Region.ready md ops d=[j]) (ho:ops[j]? = some o) (hg:o.guard=none)
 (h:∀ K:Act→World→Prop,(∀ a' w',((d.setIfInBounds j true).getD z true=false→S w')→wpAnyU P md ops Q S z f (d.setIfInBounds j true) a' w'→K a' w')→o.wp P a w K Q):
 wpAnyU P md ops Q S z (f+1) d a w:=by
 refine⟨fun e=>(by rw [hr] at e; cases e),fun i hi=>?_⟩
 rw [hr] at hi
 simp only [List.mem_cons,List.not_mem_nil,or_false] at hi
 subst hi
 unfold wpOp
 simp only [ho]
 have hw:Region.wanted o (yielded ops a.tmps)=true:=by simp [Region.wanted,hg]
 rw [if_pos hw]
 exact .inl (h _ fun a' w' h1 h2=>⟨h1,h2⟩)
theorem U_two (i j:Nat) {oi oj:Oper} {f:Nat} {d:Array Bool} {a:Act} {w:World} (hr:Region.ready md ops d=[i,j]) (hoi:ops[i]? = some oi) (hoj:ops[j]? = some oj) (hgi:oi.guard=none) (hgj:oj.guard=none)
 (h1:∀ K:Act→World→Prop,(∀ a' w',((d.setIfInBounds i true).getD z true=false→S w')→wpAnyU P md ops Q S z f (d.setIfInBounds i true) a' w'→K a' w')→oi.wp P a w K Q)
 (h2:∀ K:Act→World→Prop,(∀ a' w',((d.setIfInBounds j true).getD z true=false→S w')→wpAnyU P md ops Q S z f (d.setIfInBounds j true) a' w'→K a' w')→oj.wp P a w K Q):
 wpAnyU P md ops Q S z (f+1) d a w:=by
 refine⟨fun e=>(by rw [hr] at e; cases e),fun k hk=>?_⟩
 rw [hr] at hk
 simp only [List.mem_cons,List.not_mem_nil,or_false] at hk
 unfold wpOp
 rcases hk with rfl | rfl
 ·simp only [hoi]
  rw [if_pos (by simp [Region.wanted,hgi])]
  exact .inl (h1 _ fun a' w' h1 h2=>⟨h1,h2⟩)
 ·simp only [hoj]
  rw [if_pos (by simp [Region.wanted,hgj])]
  exact .inl (h2 _ fun a' w' h1 h2=>⟨h1,h2⟩)
theorem U_done {d:Array Bool} {a:Act} {w:World} (hr:Region.ready md ops d=[]) (h:Q .normal a w):∀ f,wpAnyU P md ops Q S z f d a w
 | 0=>⟨hr,h⟩
 | f+1=>⟨fun _=>h,fun i hi=>by rw [hr] at hi; cases hi⟩
def Calm (Q:Exit→Act→World→Prop):Exit→Act→World→Prop
 | .normal,a,w=>Q .normal a w
 | _,_,_=>False
theorem Calm.imp:∀ (e:Exit) (a:Act) (w:World),Calm Q e a w→Q e a w:=fun e a w h=>by cases e <;> first | exact h | exact h.elim
theorem wp_region_U (z:Nat) (S:World→Prop) {id:Nat} {a:Act} {w:World} (hm:P.follows .mixedOrders=true)
 (h:wpAnyU P .any ops (Calm Q) S z ops.size (Array.replicate ops.size false) a w.drew):(Code.region id ops true).wp P Q a w:=
 wp_mono (wp_region_any hm (wpAny_of_U _ _ _ _ h)) Calm.imp
end
end
section
open Go.RowKit Go.Sort
section
variable {P:Program} {md:Region.Mode} {ops:Array Oper} {Q:Exit→Act→World→Prop} {S:World→Prop} {z:Nat}
def chainB (md:Region.Mode) (ops:Array Oper):Nat→List Nat→Bool
 | _,[]=>true
 | i,c :: cs=>waitsB md ops c i && chainB md ops c cs
theorem chain_not_ready {d:Array Bool}:∀ {i:Nat} {ch:List Nat},chainB md ops i ch=true→d.getD i true=false→(∀ c∈ch,d.getD c true=false)→∀ j∈Region.ready md ops d,j∉ch
 | _,[],_,_,_,_,_=>by simp
 | i,c :: cs,h,hi,hc,j,hj=>by
   unfold chainB at h
   simp only [Bool.and_eq_true] at h
   intro hm
   rcases List.mem_cons.1 hm with rfl | hm
   ·exact waits_ne h.1 hi hj rfl
   ·exact chain_not_ready h.2 (hc c (List.mem_cons_self ..)) (fun c' h'=>hc c' (List.mem_cons_of_mem _ h')) j hj hm
theorem U_firstC {i:Nat} {oi:Oper} {v:Value} {ch:List Nat} (hi:ops[i]? = some oi) (hsel:∀ (j:Nat) (o:Oper) cs b,ops[j]? = some o→o.op≠ .select cs b)
 (hQ:∀ c a w,Q (.panic c) (a.put oi.dst v) w→Q (.panic c) a w) (hch:chainB md ops i ch=true) (hz:z∈ch) (hzi:z≠i):
 ∀ (f:Nat) (d:Array Bool) (a:Act) (w:World),
   (∀ j oj,ops[j]? = some oj→j≠i→d.getD j true=false→(∀ e∈oj.after,Region.binds md e=true→e.on≠i)→oi.apart ops oj=true)→
   i∈Region.ready md ops d→YieldsIf P ops S oi v a→S w→(∀ c∈ch,d.getD c true=false)→
   wpAnyU P md ops Q S z f (d.setIfInBounds i true) (a.put oi.dst v) w→wpAnyU P md ops Q S z (f+1) d a w
 | 0,d,a,w,_,hr,hy,hS,hzd,H=>by
   refine⟨fun h=>absurd h (not_ready_nil hr),fun j hj=>?_⟩
   by_cases hji:j=i
   ·subst hji
    exact hy.wpOp hi hS ⟨fun _=>hS,H⟩
   ·have h2:=ready_mono hj hji
    exact absurd H.1 (not_ready_nil h2)
 | f + 1,d,a,w,hfree,hr,hy,hS,hzd,H=>by
   refine⟨fun h=>absurd h (not_ready_nil hr),fun j hj=>?_⟩
   by_cases hji:j=i
   ·subst hji
    exact hy.wpOp hi hS ⟨fun _=>hS,H⟩
   ·obtain⟨hjun,oj,hoj,hall⟩:=mem_ready.1 hj
    have hir:=(mem_ready.1 hr).1
    have hjc:j∉ch:=chain_not_ready hch hir hzd j hj
    have hzj:z≠j:=fun e=>hjc (e ▸ hz)
    have hnot:∀ e∈oj.after,Region.binds md e=true→e.on≠i:=fun e he hb heq=>by
     have h1:=hall e he hb
     rw [heq,getD_both hir] at h1
     cases h1
    have h1:=wpOp_putIf hoj (hfree j oj hoj hji hjun hnot) (fun cs b=>hsel i oi cs b hi) (fun cs b=>hsel j oj cs b hoj) hQ hy (H.2 j (ready_mono hj hji))
    have hri:i∈Region.ready md ops (d.setIfInBounds j true):=ready_mono hr (Ne.symm hji)
    have hcm:(d.setIfInBounds i true).setIfInBounds j true=(d.setIfInBounds j true).setIfInBounds i true:=Array.setIfInBounds_comm _ _ (Ne.symm hji)
    refine wpOp_mono (fun a' w' h3=>?_) h1
    rw [hcm] at h3
    have hz2:∀ c∈ch,(d.setIfInBounds j true).getD c true=false:=fun c hc=>by
     rw [getD_set_ne true (show j≠c from fun e=>by subst e; exact hjc hc)]; exact hzd c hc
    have hS':=h3.2.1 (by rw [getD_set_ne true (Ne.symm hzi)]; exact hz2 z hz)
    refine⟨fun _=>hS',U_firstC hi hsel hQ hch hz hzi f (d.setIfInBounds j true) a' w' (fun k ok hk hki hun hno=>?_) hri h3.1 hS' hz2 h3.2.2⟩
    refine hfree k ok hk hki ?_ hno
    by_cases hjk:j=k
    ·subst hjk; exact hjun
    ·rw [getD_set_ne true hjk] at hun; exact hun
def takeC (md:Region.Mode) (ops:Array Oper) (z i:Nat) (ch:List Nat) (d:Array Bool):Bool:=
 Region.noSelect ops && Region.free md ops d i && (Region.ready md ops d).contains i && chainB md ops i ch && (ch.contains z) && (z != i) && ch.all (fun c=> !(d.getD c true))
theorem U_readC (i:Nat) (ch:List Nat) {oi:Oper} {v:Value} {f:Nat} {d:Array Bool} {a:Act} {w:World} (hi:ops[i]? = some oi) (hB:takeC md ops z i ch d=true)
 (hQ:∀ c a w,Q (.panic c) (a.put oi.dst v) w→Q (.panic c) a w) (hS:S w) (hw:Region.wanted oi (yielded ops a.tmps)=true) (hy:∀ w,S w→(execOp a.eval oi).run P w = .ok (.value v) w)
 (h:wpAnyU P md ops Q S z f (d.setIfInBounds i true) (a.put oi.dst v) w):wpAnyU P md ops Q S z (f+1) d a w:=by
 unfold takeC at hB
 simp only [Bool.and_eq_true,bne_iff_ne,ne_eq,List.all_eq_true,Bool.not_eq_true'] at hB
 obtain⟨⟨⟨⟨⟨⟨h1,h2⟩,h3⟩,h4⟩,h5⟩,h6⟩,h7⟩:=hB
 exact U_firstC hi (Region.noSelect_spec h1) hQ h4 (by simpa using h5) h6 f d a w (Region.free_spec hi h2) (by simpa using h3) (.inl ⟨hw,hy⟩) hS h7 h
end
section
variable {P:Program} {l n:Nat} {Q:Exit→Act→World→Prop}
end
end
section
open Go.RowKit
section
variable {P:Program} {md:Region.Mode} {ops:Array Oper} {Q:Exit→Act→World→Prop} {S:World→Prop} {z:Nat}
theorem U_skipG (i:Nat) (ch:List Nat) {oi:Oper} {f:Nat} {d:Array Bool} {a:Act} {w:World} (hi:ops[i]? = some oi) (hB:takeC md ops z i ch d=true)
 (hQ:∀ c a w,Q (.panic c) (a.put oi.dst undef) w→Q (.panic c) a w) (hS:S w) (hw:Region.wanted oi (yielded ops a.tmps)=false)
 (h:wpAnyU P md ops Q S z f (d.setIfInBounds i true) (a.put oi.dst undef) w):wpAnyU P md ops Q S z (f+1) d a w:=by
 unfold takeC at hB
 simp only [Bool.and_eq_true,bne_iff_ne,ne_eq,List.all_eq_true,Bool.not_eq_true'] at hB
 obtain⟨⟨⟨⟨⟨⟨h1,h2⟩,h3⟩,h4⟩,h5⟩,h6⟩,h7⟩:=hB
 exact U_firstC hi (Region.noSelect_spec h1) hQ h4 (by simpa using h5) h6 f d a w (Region.free_spec hi h2) (by simpa using h3) (.inr ⟨hw,rfl⟩) hS h7 h
theorem U_oneG (j:Nat) {o:Oper} {f:Nat} {d:Array Bool} {a:Act} {w:World} (hr:Region.ready md ops d=[j]) (ho:ops[j]? = some o) (hw:Region.wanted o (yielded ops a.tmps)=true)
 (h:∀ K:Act→World→Prop,(∀ a' w',((d.setIfInBounds j true).getD z true=false→S w')→wpAnyU P md ops Q S z f (d.setIfInBounds j true) a' w'→K a' w')→o.wp P a w K Q):
 wpAnyU P md ops Q S z (f+1) d a w:=by
 refine⟨fun e=>(by rw [hr] at e; cases e),fun i hi=>?_⟩
 rw [hr] at hi
 simp only [List.mem_cons,List.not_mem_nil,or_false] at hi
 subst hi
 unfold wpOp
 simp only [ho]
 rw [if_pos hw]
 exact .inl (h _ fun a' w' h1 h2=>⟨h1,h2⟩)
end
end
end Go.Proofs.YtdoahpflemgaeaaGreatDoor
