import Derived.Test.YtlkahgagmfhdaaaGreatDoorQLive
import Derived.Test.YtlkahgagmfhdaaaGreatDoorQHdF
import Derived.Test.YtlkahgagmfhdaaaGreatDoorQAll
import Derived.Test.YtlkahgagmfhdaaaGreatDoorQAwake
set_option linter.unusedVariables false
namespace Go.Proofs.YtlkahgagmfhdaaaGreatDoor
section
open Go.RowKit
structure Two (W w:World) (p:HP) (g:Nat) (q:HP) (k:Nat) (a b:HM):Prop where
 live:Live W w p g a
 doc:RAt w q b
 hk:q.g=k
 qnew:∀ j,q.has j→W.heap.size≤j
 apart:∀ j,q.has j→¬ p.has j
structure Step2 (p q p' q':HP) (w w':World):Prop where
 os:w'.os=w.os
 tape:w'.tape=w.tape
 output:w'.output=w.output
 size:w.heap.size≤w'.heap.size
 block:∀ j,j<w.heap.size→¬ p.has j→¬ q.has j→w'.heap[j]? = w.heap[j]?
 prows:∀ j,p'.has j→p.has j∨w.heap.size≤j
 qrows:∀ j,q'.has j→q.has j∨w.heap.size≤j
section
variable {W w w' w'':World} {p q p' q' p'' q'':HP} {g k:Nat} {a b a' b':HM}
theorem Step2.of_left (s:Step p p' w w'):Step2 p q p' q w w':=⟨s.os,s.tape,s.output,s.size,fun j hj hp _=>s.block j hj hp,s.rows,fun _ h=> .inl h⟩
theorem Step2.of_right (s:Step q q' w w'):Step2 p q p q' w w':=⟨s.os,s.tape,s.output,s.size,fun j hj _ hq=>s.block j hj hq,fun _ h=> .inl h,s.rows⟩
theorem Two.left (T:Two W w p g q k a b) (L:Live W w' p' g a') (s:Step p p' w w'):Two W w' p' g q k a' b:=
 ⟨L,T.doc.same fun j hj=>s.block j (T.doc.lt hj) (T.apart j hj),T.hk,T.qnew,fun j hj hh=>(s.rows j hh).elim (T.apart j hj) (fun h=>by have:=T.doc.lt hj; omega)⟩
theorem Two.right (T:Two W w p g q k a b) (R:RAt w' q' b') (s:Step q q' w w'):Two W w' p g q' k a b':=
 ⟨⟨T.live.at_.same fun j hj=>s.block j (T.live.at_.lt hj) (fun h=>T.apart j h hj),T.live.hg,T.live.good,T.live.env,T.live.new,s.below T.live.below T.qnew⟩,R,s.g.trans T.hk,
   fun j hj=>(s.rows j hj).elim (T.qnew j) (fun h=>Nat.le_trans T.live.below.size h),fun j hj hp=>(s.rows j hj).elim (fun h=>T.apart j h hp) (fun h=>by have:=T.live.at_.lt hp; omega)⟩
def Done2 (W:World) (p:HP) (g:Nat) (q:HP) (k:Nat) (a b:HM) (v:Value) (w:World) (e:Ending) (w':World):Prop:=
 ∃ p' q',e = .returned v∧Two W w' p' g q' k a b∧Step2 p q p' q' w w'
theorem Two.of_done {v:Value} {d:Ending} (T:Two W w p g q k a b) (H:Done W p g a' v w d w'):Done2 W p g q k a' b v w d w':=by
 obtain⟨p',rfl,L,s⟩:=H
 exact⟨p',q,rfl,T.left L s,.of_left s⟩
theorem Two.of_rmade {v:Value} {d:Ending} (T:Two W w p g q k a b) (H:RMade q b' v w d w'):Done2 W p g q k a b' v w d w':=by
 obtain⟨q',rfl,R,s⟩:=H
 exact⟨p,q',rfl,T.right R s,.of_right s⟩
theorem Two.of_rdeeds {E:Nat} {d:Ending} (T:Two W w p g q k a b) (H:RDeeds q b' E w d w'):Done2 W p g q k a b' (.int .i64 E) w d w':=by
 obtain⟨rfl,R,s⟩:=H
 exact⟨p,q,rfl,T.right R s,.of_right s⟩
theorem Two.ralloc (T:Two W w p g q k a b) (f:b.Fit) (c:Nat) (hc:c<4294967296) (t n:Int):
 Calls Tryz.prog 76 #[.pointer (some ⟨k,0,none⟩),.int .u32 c,.int .i64 t,.int .i64 n] w (Done2 W p g q k a (b.AllocH c t n) (.tuple #[.int .u32 (b.AllocO c t n:Nat),.int .i64 (b.AllocE c t n:Nat)]) w):=by
 have hh:=rAlloc_any T.doc f c hc t n
 rw [T.hk,HM.AllocV_eq] at hh
 exact hh.mono fun _ _ H=>T.of_rmade H
theorem Two.rsetRoot (T:Two W w p g q k a b) (f:b.Fit) (i:Int) (v:Nat) (hv:v<4294967296):
 Calls Tryz.prog 79 #[.pointer (some ⟨k,0,none⟩),.int .i64 i,.int .u32 v] w (Done2 W p g q k a (b.setRootH i v) (.int .i64 (b.setRootE i v:Nat)) w):=by
 have hh:=rsetRoot_any T.doc f i v hv
 rw [T.hk] at hh
 exact hh.mono fun _ _ H=>T.of_rdeeds H
end
theorem HM.AllocE_lt (h:HM) (c:Nat) (t n:Int):h.AllocE c t n<1000:=by
 have:=h.allocE_le (mkHd c t n)
 unfold HM.AllocE
 split <;> omega
theorem HM.putE_lt (h:HM) (o:Nat) (i:Int) (v:Nat):h.putE o i v<1000:=by
 have:=h.lookE_lt o i [1,4]
 unfold HM.putE
 split <;> (try split) <;> omega
end
end Go.Proofs.YtlkahgagmfhdaaaGreatDoor
