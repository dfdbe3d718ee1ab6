import Derived.Test.YtlkahgagmfhdaaaGreatDoorQICardC
import Derived.Test.YtlkahgagmfhdaaaGreatDoorQHdW
set_option linter.unusedVariables false
namespace Go.Proofs.YtlkahgagmfhdaaaGreatDoor
section
open Go.RowKit Go.WideShapes Go.ChangeShapes Go.ChangeAt Go.Deep
theorem exists_listH {α:Type} (n:Nat) (P:Nat→α→Prop) (h:∀ i,i<n→∃ d,P i d):∃ ds:List α,ds.length=n∧∀ i d,ds[i]? = some d→P i d:=by
 induction n with
 | zero=>exact⟨[],rfl,fun i d hd=>by simp at hd⟩
 | succ n ih=>
   obtain⟨ds,hl,hds⟩:=ih (fun i hi=>h i (by omega))
   obtain⟨d,hd⟩:=h n (by omega)
   refine⟨ds++[d],by simp [hl],fun i e he=>?_⟩
   rcases Nat.lt_or_ge i n with hi | hi
   ·rw [List.getElem?_append_left (by omega)] at he
    exact hds i e he
   ·rw [List.getElem?_append_right (by omega)] at he
    have:i=n:=by
     rcases Nat.lt_or_ge (i-ds.length) 1 with h1 | h1
     ·omega
     ·rw [List.getElem?_eq_none (by simpa using h1)] at he; cases he
    subst this
    rw [hl,Nat.sub_self] at he
    cases he
    exact hd
theorem hdeedX:∃ fs,Tryz.prog.underlying 72=some (.struct fs)∧oneCellFields Tryz.prog fs=true∧fs.size=5∧
 fs.toList.map (·.type)=[3,54,47,3,3]:=⟨_,Tryz.underlying72,by kernel_rfl,by kernel_rfl,by kernel_rfl⟩
theorem cellsHdeed:Tryz.prog.cellsOf 72=5:=by kernel_rfl
theorem scriptX:∃ fs,Tryz.prog.underlying 50=some (.struct fs)∧oneCellFields Tryz.prog fs=true∧fs.size=5∧
 fs.toList.map (·.type)=[3,3,3,47,48]:=⟨_,Tryz.underlying50,by kernel_rfl,by kernel_rfl,by kernel_rfl⟩
theorem cellsScript:Tryz.prog.cellsOf 50=5:=by kernel_rfl
theorem fields5 {H:Type} {enc:TypeId × Value→H} {w:World} {base:Nat} {spare:Nat→Bool} {held:Bool} {fuel:Nat} {T:TypeId} {fs:Array Field} {cs:List Value} {x:DataW H × List MemPlace} {ts:List TypeId}
 (u:Tryz.prog.underlying T=some (.struct fs)) (one:oneCellFields Tryz.prog fs=true) (size:fs.size=5) (ty:fs.toList.map (·.type)=ts) (hc:Tryz.prog.cellsOf T=5)
 (h:DataW.trod enc Tryz.prog w base spare held fuel T cs=some x):cs.length=5∧∃ n',∀ (j:Nat) (t:TypeId),ts[j]? = some t→∃ (v:Value) (y:DataW H × List MemPlace),cs[j]? = some v∧DataW.trod enc Tryz.prog w base spare held n' t [v]=some y:=by
 obtain⟨xs,n',hn',hy,hlen,hyl,hf⟩:=DataW.trod_struct u h
 rw [hc] at hlen
 rw [size] at hyl
 refine⟨hlen,n',fun j t hj=>?_⟩
 rw [← ty,List.getElem?_map,Option.map_eq_some_iff] at hj
 obtain⟨f,hjf,rfl⟩:=hj
 rw [Array.getElem?_toList] at hjf
 obtain⟨ho,hk⟩:=hone_of one j f hjf
 have hjl:j<5:=by have:=(Array.getElem?_eq_some_iff.1 hjf).1; rw [size] at this; exact this
 have h1:=hf j f hjf
 rw [ho,hk] at h1
 have hone':(cs.drop j).take 1=[cs[j]'(by omega)]:=by
  rw [List.drop_eq_getElem_cons (by omega)]
  rfl
 rw [hone'] at h1
 exact⟨cs[j]'(by omega),xs[j]'(by omega),List.getElem?_eq_getElem (by omega),h1.trans (List.getElem?_eq_getElem (by omega))⟩
theorem list5 {cs:List Value} {v0 v1 v2 v3 v4:Value} (hl:cs.length=5) (c0:cs[0]? = some v0) (c1:cs[1]? = some v1) (c2:cs[2]? = some v2) (c3:cs[3]? = some v3) (c4:cs[4]? = some v4):cs=[v0,v1,v2,v3,v4]:=by
 match cs,hl with
 | [a,b,c,d,e],_=>
   simp only [List.getElem?_cons_zero,List.getElem?_cons_succ,Option.some.injEq] at c0 c1 c2 c3 c4
   rw [c0,c1,c2,c3,c4]
theorem u64_of_wf {n:Int} (h:(Lit.int .u64 n).wf=true):∃ m:Nat,n=(m:Int)∧m<18446744073709551616:=by
 obtain⟨m,e,hm⟩:=nat_of_wf rfl h
 have:IntKind.u64.max=18446744073709551615:=rfl
 exact⟨m,e,by omega⟩
theorem u32_of_wf {n:Int} (h:(Lit.int .u32 n).wf=true):∃ m:Nat,n=(m:Int)∧m<4294967296:=by
 obtain⟨m,e,hm⟩:=nat_of_wf rfl h
 have:IntKind.u32.max=4294967295:=rfl
 exact⟨m,e,by omega⟩
theorem i64_of_wf {n:Int} (h:(Lit.int .i64 n).wf=true): -9223372036854775808≤n∧n≤9223372036854775807:=by
 have h1:=wf_range h
 have h2:IntKind.i64.min = -9223372036854775808:=rfl
 have h3:IntKind.i64.max=9223372036854775807:=rfl
 omega
theorem open_hdeed {H:Type} {enc:TypeId × Value→H} {w:World} {base:Nat} {spare:Nat→Bool} {held:Bool} {fuel:Nat} {cs:List Value} {x:DataW H × List MemPlace}
 (h:DataW.trod enc Tryz.prog w base spare held fuel 72 cs=some x):∃ d:Hd5,d.Fit∧cs=d.vals:=by
 obtain⟨fs,u,one,size,ty⟩:=hdeedX
 obtain⟨hl,n',field⟩:=fields5 u one size ty cellsHdeed h
 obtain⟨v0,y0,c0,t0⟩:=field 0 _ rfl
 obtain⟨v1,y1,c1,t1⟩:=field 1 _ rfl
 obtain⟨v2,y2,c2,t2⟩:=field 2 _ rfl
 obtain⟨v3,y3,c3,t3⟩:=field 3 _ rfl
 obtain⟨v4,y4,c4,t4⟩:=field 4 _ rfl
 obtain⟨n0,e0,-,w0⟩:=DataW.trod_int Tryz.underlying3 t0
 obtain⟨n1,e1,-,w1⟩:=DataW.trod_int Tryz.underlying54 t1
 obtain⟨n2,e2,-,w2⟩:=DataW.trod_int Tryz.underlying47 t2
 obtain⟨n3,e3,-,w3⟩:=DataW.trod_int Tryz.underlying3 t3
 obtain⟨n4,e4,-,w4⟩:=DataW.trod_int Tryz.underlying3 t4
 simp only [List.cons.injEq,and_true] at e0 e1 e2 e3 e4
 subst e0 e1 e2 e3 e4
 obtain⟨m1,rfl,b1⟩:=u32_of_wf w1
 obtain⟨m2,rfl,b2⟩:=u64_of_wf w2
 exact⟨⟨n0,m1,m2,n3,n4⟩,⟨(i64_of_wf w0).1,(i64_of_wf w0).2,b1,b2,(i64_of_wf w3).1,(i64_of_wf w3).2,(i64_of_wf w4).1,(i64_of_wf w4).2⟩,list5 hl c0 c1 c2 c3 c4⟩
set_option maxRecDepth 100000 in
theorem open_script {H:Type} {enc:TypeId × Value→H} {w:World} {r:Reach} {b0 base:Nat} {spare:Nat→Bool} {held:Bool} {v:Value} {d:DataW H} {ps:List MemPlace}
 (hv:Value.okWide Tryz.prog w r b0 50 v) (h:DataW.Trod enc Tryz.prog w base spare held 50 v d ps):
 ∃ (sz ob cp:Int) (fi:Nat) (A:Option Addr) (nd c:Nat) (ds:List Hd5),v = .agg #[.int .i64 sz,.int .i64 ob,.int .i64 cp,.int .u64 (fi:Int),.slice A nd c]∧fi<18446744073709551616∧nd≤9223372036854775807∧Hds5 w w.heap.size A nd ds∧(-9223372036854775808≤cp∧cp≤9223372036854775807):=by
 obtain⟨fs,u,one,size,ty⟩:=scriptX
 obtain⟨cs,rfl,hsz⟩:=okWide_struct u hv
 obtain⟨fuel,hf0⟩:=h
 obtain⟨hl,n',field⟩:=fields5 u one size ty cellsScript (show DataW.trod enc Tryz.prog w base spare held fuel 50 cs.toList=some (d,ps) from hf0)
 obtain⟨v0,y0,c0,t0⟩:=field 0 _ rfl
 obtain⟨v1,y1,c1,t1⟩:=field 1 _ rfl
 obtain⟨v2,y2,c2,t2⟩:=field 2 _ rfl
 obtain⟨v3,y3,c3,t3⟩:=field 3 _ rfl
 obtain⟨v4,y4,c4,t4⟩:=field 4 _ rfl
 obtain⟨n0,e0,-,w0⟩:=DataW.trod_int Tryz.underlying3 t0
 obtain⟨n1,e1,-,w1⟩:=DataW.trod_int Tryz.underlying3 t1
 obtain⟨n2,e2,-,w2⟩:=DataW.trod_int Tryz.underlying3 t2
 obtain⟨n3,e3,-,w3⟩:=DataW.trod_int Tryz.underlying47 t3
 simp only [List.cons.injEq,and_true] at e0 e1 e2 e3
 subst e0 e1 e2 e3
 obtain⟨m3,rfl,b3⟩:=u64_of_wf w3
 have hcs:=list5 hl c0 c1 c2 c3 c4
 have key:∃ (A:Option Addr) (nd c:Nat) (ds:List Hd5),v4 = .slice A nd c∧nd≤9223372036854775807∧Hds5 w w.heap.size A nd ds:=by
  rcases open_slice Tryz.underlying48 t4 with ⟨he,-⟩ | ⟨a,len,cap,m,n,D,Pl,he,hb,hll,hm,hmm,-,hi⟩
  ·simp only [List.cons.injEq,and_true] at he
   subst he
   exact⟨none,0,0,[],rfl,by omega,rfl,fun i d hd=>by simp at hd⟩
  ·simp only [List.cons.injEq,and_true] at he
   subst he
   unfold maxLen at hm
   obtain⟨ds,hdl,hds⟩:=exists_listH len (fun i (q:Hd5)=>q.Fit∧∃ ad,some a=some ad∧ad.block<w.heap.size∧∀ j v,q.vals[j]? = some v→w.cell? (ad.add (i*5+j))=some v) (by
    intro i hin
    obtain⟨cs',hc,ht'⟩:=hi i (by rw [hmm]; split <;> omega)
    rw [cellsHdeed] at hc
    obtain⟨_,hcl,hat⟩:=World.cells?_some hc
    obtain⟨q,fq,hvals⟩:=open_hdeed ht'
    subst hvals
    have h0:=hat 0 (by omega)
    have hblk:=World.block_lt_of_cell? _ _ h0
    rw [block_of_add,block_of_add] at hblk
    refine⟨q,fq,a,rfl,hblk,fun j v hj=>?_⟩
    have hj5:j<5:=by
     rcases Nat.lt_or_ge j 5 with h1 | h1
     ·exact h1
     ·rw [List.getElem?_eq_none (show q.vals.length≤j from h1)] at hj; cases hj
    rw [← add_of_add,hat j hj5,List.getElem?_eq_getElem (show j<q.vals.length from hj5)] at *
    first | exact hj | (simpa using hj))
   exact⟨some a,len,cap,ds,rfl,by omega,hdl,hds⟩
 obtain⟨A,nd,c,ds,rfl,h1,h2⟩:=key
 refine⟨n0,n1,n2,m3,A,nd,c,ds,?_,b3,h1,h2,i64_of_wf w2⟩
 congr 1
 apply Array.ext'
 exact hcs
end
end Go.Proofs.YtlkahgagmfhdaaaGreatDoor
