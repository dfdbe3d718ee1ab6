import Derived.Test.YtlkahgagmfhdaaaGreatDoorQHtK
import Derived.Test.YtlkahgagmfhdaaaGreatDoorQMapOk
import Derived.Test.YtlkahgagmfhdaaaGreatDoorQHdW
import Derived.Test.YtlkahgagmfhdaaaGreatDoorQHdF
import Derived.Maps.RangeWalk
import Derived.Deep.RegionHeld3
import Derived.BigRegion
import Derived.BigQuiet
set_option linter.unusedVariables false
set_option linter.unusedSimpArgs false
set_option linter.unusedSectionVars false
namespace Go.Proofs.YtlkahgagmfhdaaaGreatDoor
section
open Go.RowKit Go.Maps
def ptrElem (v:Value):Option (DataW Unit × List MemPlace):=match v with
 | .pointer none=>some (.lit (.int .u64 0),[])
 | .pointer (some ⟨b,0,none⟩)=>some (.lit (.int .u64 ((b:Int)+1)),[])
 | _=>none
def entC (x:Nat × Nat × Bool):Array Value:=#[.int .u32 (x.1:Int),.int .i64 (x.2.1:Int),.bool x.2.2]
def bkP (m:BkM) (at_:Nat→Nat) (id:Nat):Value:=match m id with
 | none=> .pointer none
 | some _=> .pointer (some ⟨at_ id,0,none⟩)
structure Bk (w:World) (B bm n:Nat) (D:DataW Unit) (m:BkM) (at_:Nat→Nat):Prop where
 isMap:IsMap D
 own:w.ownsMap Tryz.prog 47 ptrElem bm n D
 read:∀ id:Nat,id<18446744073709551616→∀ zd,D.atKey (.int .u64 (id:Int)) zd=match m id with
  | none=>zd
  | some _=> .lit (.int .u64 ((at_ id:Int)+1))
 ent:∀ id x,m id=some x→Blk w (at_ id) 80 (entC x)∧B≤at_ id
 inj:∀ i j x y,m i=some x→m j=some y→at_ i=at_ j→i=j
 base:B≤bm
section
variable {w w':World} {B bm n:Nat} {D:DataW Unit} {m:BkM} {at_:Nat→Nat}
theorem Bk.ne_ (K:Bk w B bm n D m at_) {id:Nat} {x:Nat × Nat × Bool} (hx:m id=some x):at_ id≠bm:=by
 intro e
 obtain⟨es,c,hb,_⟩:=K.own
 have:=(K.ent id x hx).1
 rw [e] at this
 unfold Blk at this
 rw [hb] at this
 cases this
end
end
section
open Go.RowKit
section
variable {W w w':World} {p:HP} {g gt bm n:Nat} {D:DataW Unit} {h:HM} {t:TM} {m:BkM} {at_:Nat→Nat} {last:Nat}
end
section
variable {W w w':World} {p:HP} {g gt bm n:Nat} {D:DataW Unit} {h h':HM} {t t':TM} {m:BkM} {at_:Nat→Nat} {last:Nat}
end
theorem issE_lt (h:HM) (t:TM) (o:Nat) (n:Int):issE h t o n<4294967296:=by unfold issE; split <;> (try split) <;> (try split) <;> (try split) <;> (try split) <;> omega
theorem fndE_lt (h:HM) (t:TM) (id:Nat):fndE h t id<4294967296:=by unfold fndE; split <;> (try split) <;> omega
theorem rnwE_lt (h:HM) (t:TM) (id:Nat) (n:Int):rnwE h t id n<4294967296:=by
 have:=fndE_lt h t id
 unfold rnwE; split <;> (try split) <;> omega
theorem tikE_lt (h:HM) (t:TM) (n:Int):tikE h t n<4294967296:=by unfold tikE; split <;> (try split) <;> omega
end
section
open Go.RowKit
attribute [local go_sem] Oper.semAt_some
structure DoS (W w:World) (p:HP) (g gt:Nat) (q:HP) (k kt kb:Nat) (h:HM) (t:TM) (h2:HM) (t2:TM):Prop where
 T:HT W w p g gt h t
 D:DT W w q k kt kb h2 t2
 far:∀ j,q.has j∨j=kt∨j=kb→¬ p.has j∧j≠gt
structure DoB (W w:World) (p:HP) (g gt:Nat) (q:HP) (k kt kb:Nat) (bd:Nat) (xs:Array Value) (h:HM) (t:TM) (h2:HM) (t2:TM):Prop where
 S:DoS W w p g gt q k kt kb h t h2 t2
 box:Blk w bd 72 xs
 bp:¬ p.has bd∧bd≠gt
 bq:¬ q.has bd∧bd≠kt∧bd≠kb
section
variable {W w w':World} {p p':HP} {g gt:Nat} {q q':HP} {k kt kb bd:Nat} {xs:Array Value} {h h' h2:HM} {t t' t2:TM}
theorem DoS.after (S:DoS W w p g gt q k kt kb h t h2 t2) (hb:Below w.heap.size w w'):DoS W w' p g gt q k kt kb h t h2 t2:=⟨S.T.after hb,S.D.after hb,S.far⟩
theorem DoB.after (S:DoB W w p g gt q k kt kb bd xs h t h2 t2) (hb:Below w.heap.size w w'):DoB W w' p g gt q k kt kb bd xs h t h2 t2:=⟨S.S.after hb,S.box.below hb S.box.lt,S.bp,S.bq⟩
theorem DoB.drew (S:DoB W w p g gt q k kt kb bd xs h t h2 t2):DoB W w.drew p g gt q k kt kb bd xs h t h2 t2:=S.after (below_drew (Below.refl _ _))
theorem DoS.prog (S:DoS W w p g gt q k kt kb h t h2 t2) (T':HT W w' p g gt h' t') (K:HKeep p gt w w'):DoS W w' p g gt q k kt kb h' t' h2 t2:=
 ⟨T',S.D.same (fun j hj=>K.block j (S.D.lt j hj) (S.far j hj).1 (S.far j hj).2) T'.live.below,S.far⟩
theorem DoB.prog (S:DoB W w p g gt q k kt kb bd xs h t h2 t2) (T':HT W w' p g gt h' t') (K:HKeep p gt w w'):DoB W w' p g gt q k kt kb bd xs h' t' h2 t2:=
 ⟨S.S.prog T' K,S.box.same (K.block bd S.box.lt S.bp.1 S.bp.2),S.bp,S.bq⟩
theorem DoS.doc (S:DoS W w p g gt q k kt kb h t h2 t2) (D':DT W w' q k kt kb h' t') (K:DKeep q kt kb w w'):DoS W w' p g gt q k kt kb h t h' t':=
 ⟨S.T.same (fun j hj=>K.block j (by
   rcases hj with hj | rfl
   ·exact S.T.live.at_.lt hj
   ·exact S.T.tab.lt) (fun hh=>by
    have:=S.far j (.inl hh)
    rcases hj with hj | hj
    ·exact this.1 hj
    ·exact this.2 hj) (fun e=>by
    have:=S.far j (.inr (.inl e))
    rcases hj with hj | hj
    ·exact this.1 hj
    ·exact this.2 hj) (fun e=>by
    have:=S.far j (.inr (.inr e))
    rcases hj with hj | hj
    ·exact this.1 hj
    ·exact this.2 hj)) D'.low,D',S.far⟩
theorem DoB.doc (S:DoB W w p g gt q k kt kb bd xs h t h2 t2) (D':DT W w' q k kt kb h' t') (K:DKeep q kt kb w w'):DoB W w' p g gt q k kt kb bd xs h t h' t':=
 ⟨S.S.doc D' K,S.box.same (K.block bd S.box.lt S.bq.1 S.bq.2.1 S.bq.2.2),S.bp,S.bq⟩
theorem DoB.pcall (S:DoB W w p g gt q k kt kb bd xs h t h2 t2) {n:Nat} {args:Array Value} {v:Value} (H:Calls Tryz.prog n args w (HDone W p g gt h' t' v w)):
 Calls Tryz.prog n args w fun e w'=>e = .returned v∧Hid (DoB W w' p g gt q k kt kb bd xs h' t' h2 t2):=
 H.mono fun _ _ ⟨h1,T',K⟩=>⟨h1,Lib.hid (S.prog T' K)⟩
theorem DoB.dcall (S:DoB W w p g gt q k kt kb bd xs h t h2 t2) {n:Nat} {args:Array Value} {v:Value} (H:Calls Tryz.prog n args w (DDone W q k kt kb h' t' v w)):
 Calls Tryz.prog n args w fun e w'=>e = .returned v∧Hid (DoB W w' p g gt q k kt kb bd xs h t h' t'):=
 H.mono fun _ _ ⟨h1,D',K⟩=>⟨h1,Lib.hid (S.doc D' K)⟩
theorem DoB.pcol (S:DoB W w p g gt q k kt kb bd xs h t h2 t2) {l:List Ob} (G:h.Good l):Calls Tryz.prog 28 #[.pointer (some ⟨g,0,none⟩)] w fun e w'=>e = .returned (colV h l)∧∃ p',Hid (DoB W w' p' g gt q k kt kb bd xs (colH h l) t h2 t2):=
 (S.S.T.collect G).mono fun e w' ⟨p',h1,T',s⟩=>⟨h1,p',Lib.hid ⟨⟨T',S.S.D.same (fun j hj=>s.block j (S.S.D.lt j hj) (S.S.far j hj).1) T'.live.below,fun j hj=>⟨fun hh=>by
  rcases s.rows j hh with h3 | h3
  ·exact (S.S.far j hj).1 h3
  ·have:=S.S.D.lt j hj; omega,(S.S.far j hj).2⟩⟩,S.box.same (s.block bd S.box.lt S.bp.1),⟨fun hh=>by
  rcases s.rows bd hh with h3 | h3
  ·exact S.bp.1 h3
  ·have:=S.box.lt; omega,S.bp.2⟩,S.bq⟩⟩
theorem DoS.boxed (S:DoS W w p g gt q k kt kb h t h2 t2) (xs:Array Value):DoB W (w.alloc (.cells xs 72)) p g gt q k kt kb w.heap.size xs h t h2 t2:=by
 have h1:∀ {j},(p.has j∨j=gt)→j<w.heap.size:=fun {j} hj=>by
  rcases hj with hj | rfl
  ·exact S.T.live.at_.lt hj
  ·exact S.T.tab.lt
 have h2:=S.D.lt
 refine⟨S.after ((Below.refl w.heap.size w).alloc (Nat.le_refl _) _),Blk.new w _ _,⟨fun hh=>?_,fun e=>?_⟩,fun hh=>?_,fun e=>?_,fun e=>?_⟩
 ·exact Nat.lt_irrefl _ (h1 (.inl hh))
 ·exact Nat.lt_irrefl _ (h1 (.inr e))
 ·exact Nat.lt_irrefl _ (h2 _ (.inl hh))
 ·exact Nat.lt_irrefl _ (h2 _ (.inr (.inl e)))
 ·exact Nat.lt_irrefl _ (h2 _ (.inr (.inr e)))
end
def DoP (W:World) (g gt k kt kb cap:Nat) (w:World) (e:Ending) (w':World):Prop:=
 e = .returned (.bool true)∧∃ p' q' h' t',Hid (DoS W w' p' g gt q' k kt kb h' t' h' t')∧Hid (t'.cap=cap)
end
section
open Go.RowKit
attribute [local go_sem] Oper.semAt_some
theorem rnw_cap (h:HM) (t:TM) (id:Nat) (n:Int):(rnwT h t id n).cap=t.cap:=by unfold rnwT; split <;> rfl
theorem rel_cap (h:HM) (t:TM) (id:Nat):(relT h t id).cap=t.cap:=by unfold relT; split <;> rfl
theorem tik_cap (h:HM) (t:TM) (n:Int):(tikT h t n).cap=t.cap:=by
 unfold tikT
 split
 ·exact (TM.clears_same _ _).1
 ·rfl
theorem cle_cap (h:HM) (t:TM):(cleT h t).cap=t.cap:=by
 unfold cleT
 split
 ·rfl
 ·exact (TM.clears_same _ _).1
theorem isu_cap (h:HM) (t:TM) (o:Nat) (n:Int):(issT h t o n).cap=t.cap:=by unfold issT; split <;> rfl
def OffK (k:Nat) (w w':World):Prop:=∀ j,j≠k→w'.heap[j]? = w.heap[j]?
theorem OffK.refl (k:Nat) (w:World):OffK k w w:=fun _ _=>rfl
theorem OffK.drew {k:Nat} {w w':World} (H:OffK k w w'):OffK k w w'.drew:=H
theorem OffK.set {k:Nat} {w w':World} (H:OffK k w w') (i:Nat) (v:Value):OffK k w (w'.setCell ⟨k,i,none⟩ v):=fun j hj=>(Below.heap_setCell w' ⟨k,i,none⟩ v j hj).trans (H j hj)
theorem OffK.cell {k j i:Nat} {w w':World} {v:Value} (H:OffK k w w') (hj:j≠k) (h:w.cell? ⟨j,i,none⟩=some v):w'.cell? ⟨j,i,none⟩=some v:=(World.cell?_of_block (a:=⟨j,i,none⟩) (H j hj)).trans h
theorem setRootE_ltK (h:HM) (i:Int) (v:Nat):h.setRootE i v<4294967296:=by unfold HM.setRootE; split <;> (try split) <;> omega
theorem putE_ltK (h:HM) (o:Nat) (i:Int) (v:Nat):h.putE o i v<4294967296:=by
 have:=h.putE_lt o i v
 omega
section
variable {W w w1:World} {p:HP} {g gt:Nat} {q x:HP} {k kt kb bd:Nat} {xs:Array Value} {h h' h2:HM} {t t2:TM}
theorem HT.setRoot (T:HT W w p g gt h t) (i:Int) (v:Nat) (hv:v<4294967296):
 Calls Tryz.prog 77 #[.pointer (some ⟨g,0,none⟩),.int .i64 i,.int .u32 v] w (HDone W p g gt (h.setRootH i v) t (.int .i64 (h.setRootE i v:Nat)) w):=by
 have hh:=setRoot_any T.live.at_ T.live.fit i v hv
 rw [T.live.hg] at hh
 exact hh.mono fun _ _ H=>by
  obtain⟨rfl,H',s⟩:=H
  obtain⟨l,G⟩:=T.live.good
  exact⟨rfl,T.heap (T.live.step H' s ⟨l,G.setRootH i v hv⟩) s,.of_step s⟩
theorem HT.put (T:HT W w p g gt h t) (o:Nat) (ho:o<4294967296) (i:Int) (v:Nat) (hv:v<4294967296):
 Calls Tryz.prog 105 #[.pointer (some ⟨g,0,none⟩),.int .u32 o,.int .i64 i,.int .u32 v] w (HDone W p g gt (h.putH o i v) t (.int .i64 (h.putE o i v:Nat)) w):=
 (T.live.put1 o ho i v hv).mono fun _ _ ⟨h1,L,s⟩=>⟨h1,T.heap L s,.of_step s⟩
theorem DT.setRoot (D:DT W w q k kt kb h t) (i:Int) (hi:i≤9223372036854775807) (v:Nat) (hv:v<4294967296):
 Calls Tryz.prog 79 #[.pointer (some ⟨k,0,none⟩),.int .i64 i,.int .u32 (v:Nat)] w (DDone W q k kt kb (h.setRootH i v) t (.int .i64 (h.setRootE i v:Nat)) w):=by
 have hh:=rsetRoot_any D.doc D.fit i v hv
 rw [ptr,D.hk] at hh
 exact hh.mono fun _ _ H=>by
  obtain⟨rfl,R,s⟩:=H
  obtain⟨l,G⟩:=D.good
  exact⟨rfl,D.heap R s ⟨l,G.setRootH i v hv⟩,.of_step s⟩
theorem DoB.dcol (S:DoB W w p g gt q k kt kb bd xs h' t2 h t) {l:List Ob} (G:h.Good l) (hb:Below w.heap.size w w1) (R:RAt w1 x (colH h l)) (hx:∀ j,x.has j→w.heap.size≤j):
 ∃ q',DoB W (((w1.setCell ⟨k,1,none⟩ (.slice (some ⟨x.gw,0,none⟩) (colH h l).words.length x.cw)).setCell ⟨k,2,none⟩ (.slice (some ⟨x.gr,0,none⟩) (colH h l).roots.length x.cr)).setCell ⟨k,4,none⟩ (.slice (some ⟨x.gs,0,none⟩) (colH h l).starts.length x.cs)) p g gt q' k kt kb bd xs h' t2 (colH h l) t:=by
 have S1:=S.after hb
 have D:=S1.S.D
 have hk:=D.hk
 subst hk
 have hlt:q.g<w.heap.size:=S.S.D.doc.lt (.inl rfl)
 have hq:=S.S.D.new q.g (.inl (.inl rfl))
 have far:=S.S.far q.g (.inl (.inl rfl))
 have hbk:=S.bq.1
 have nk:∀ {j},x.has j→j≠q.g:=fun hj e=>by have:=hx _ hj; omega
 have hgw:x.gw≠q.g:=nk (.inr (.inl rfl))
 have hgs:x.gs≠q.g:=nk (.inr (.inr (.inl rfl)))
 have hgr:x.gr≠q.g:=nk (.inr (.inr (.inr rfl)))
 have hap:=D.apart
 have hkt:kt≠q.g:=fun e=>hap.1 (.inl e)
 have hkb:kb≠q.g:=fun e=>hap.2.1 (.inl e)
 generalize hwf:((w1.setCell ⟨q.g,1,none⟩ (.slice (some ⟨x.gw,0,none⟩) (colH h l).words.length x.cw)).setCell ⟨q.g,2,none⟩ (.slice (some ⟨x.gr,0,none⟩) (colH h l).roots.length x.cr)).setCell ⟨q.g,4,none⟩ (.slice (some ⟨x.gs,0,none⟩) (colH h l).starts.length x.cs)=wf
 have hsame:∀ j,j≠q.g→wf.heap[j]? = w1.heap[j]? :=fun j hj=>by
  rw [← hwf,Below.heap_setCell _ _ _ _ (by exact hj),Below.heap_setCell _ _ _ _ (by exact hj),Below.heap_setCell _ _ _ _ (by exact hj)]
 have hbw:Below W.heap.size W wf:=by
  rw [← hwf]
  exact ((D.low.setCell (p:=⟨q.g,1,none⟩) hq _).setCell (p:=⟨q.g,2,none⟩) hq _).setCell (p:=⟨q.g,4,none⟩) hq _
 obtain⟨hB,-,-,-⟩:=D.doc
 have hBlk:=((hB.set_ 1 (.slice (some ⟨x.gw,0,none⟩) (colH h l).words.length x.cw)).set_ 2 (.slice (some ⟨x.gr,0,none⟩) (colH h l).roots.length x.cr)).set_ 4 (.slice (some ⟨x.gs,0,none⟩) (colH h l).starts.length x.cs)
 rw [hwf] at hBlk
 have hpp:∀ {j},(p.has j∨j=gt)→j<w.heap.size:=fun {j} hj=>by
  rcases hj with hj | rfl
  ·exact S.S.T.live.at_.lt hj
  ·exact S.S.T.tab.lt
 refine⟨⟨q.g,x.gw,x.cw,x.gs,x.cs,x.gr,x.cr⟩,⟨S1.S.T.same (fun j hj=>hsame j (fun e=>?_)) hbw,⟨⟨hBlk,R.2.1.same (hsame _ hgw),R.2.2.1.same (hsame _ hgs),R.2.2.2.same (hsame _ hgr)⟩,rfl,D.tab.same (hsame _ hkt),D.row.same (hsame _ hkb),D.ok,⟨_,col_good G⟩,fun j hj=>?_,hbw⟩,fun j hj=>?_⟩,S1.box.same (hsame _ (fun e=>hbk (.inl e))),S.bp,⟨fun hh=>?_,S.bq.2⟩⟩
 ·subst e
  rcases hj with hj | hj
  ·exact far.1 hj
  ·exact far.2 hj
 ·have hsz:=S.S.D.low.size
  rcases hj with (e | e | e | e) | hj
  ·have e:j=q.g:=e; omega
  ·exact Nat.le_trans hsz (hx j (.inr (.inl e)))
  ·exact Nat.le_trans hsz (hx j (.inr (.inr (.inl e))))
  ·exact Nat.le_trans hsz (hx j (.inr (.inr (.inr e))))
  ·exact S.S.D.new j (.inr hj)
 ·have hn:x.has j→¬ p.has j∧j≠gt:=fun hj=>⟨fun hh=>by have:=hx j hj; have:=hpp (.inl hh); omega,fun e=>by have:=hx j hj; have:=hpp (.inr e); omega⟩
  rcases hj with (e | e | e | e) | hj
  ·exact S.S.far j (.inl (.inl e))
  ·exact hn (.inr (.inl e))
  ·exact hn (.inr (.inr (.inl e)))
  ·exact hn (.inr (.inr (.inr e)))
  ·exact S.S.far j (.inr hj)
 ·have hl:=S.box.lt
  rcases hh with e | e | e | e
  ·exact hbk (.inl e)
  ·have:=hx bd (.inr (.inl e)); omega
  ·have:=hx bd (.inr (.inr (.inl e))); omega
  ·have:=hx bd (.inr (.inr (.inr e))); omega
end
end
section
open Go.RowKit
attribute [local go_sem] Oper.semAt_some
section
variable {W w:World} {p:HP} {g gt:Nat} {q:HP} {k kt kb:Nat} {h:HM} {t:TM} (S:DoS W w p g gt q k kt kb h t h t) (dk dn di:Int) (o id:Nat) (ho:o<4294967296) (hid:id<18446744073709551616) (hn1: -9223372036854775808≤dn) (hn2:dn≤9223372036854775807) (hi1: -9223372036854775808≤di) (hi2:di≤9223372036854775807)
include S ho hid hn1 hn2 hi1 hi2
set_option maxRecDepth 100000 in
set_option maxHeartbeats 8000000 in
theorem do0_any (h0:dk.tmod 10=0):Calls Tryz.prog 49 #[.pointer (some ⟨gt,0,none⟩),.pointer (some ⟨g,0,none⟩),.pointer (some ⟨kt,0,none⟩),.agg #[.int .i64 dk,.int .u32 (o:Int),.int .u64 (id:Int),.int .i64 dn,.int .i64 di]] w (DoP W g gt k kt kb t.cap w):=by
 have HB:=Lib.hid (S.boxed #[.int .i64 dk,.int .u32 (o:Int),.int .u64 (id:Int),.int .i64 dn,.int .i64 di])
 have HNU:=Lib.hid (fun E hE w'=>hnum_any E hE w')
 have HP:=Lib.hid (fun w' h2 t2 (S':DoB W w' p g gt q k kt kb w.heap.size #[.int .i64 dk,.int .u32 (o:Int),.int .u64 (id:Int),.int .i64 dn,.int .i64 di] h t h2 t2)=>S'.pcall (tissue_any S'.S.T o ho dn))
 have HQ:=Lib.hid (fun w' h1 t1 (S':DoB W w' p g gt q k kt kb w.heap.size #[.int .i64 dk,.int .u32 (o:Int),.int .u64 (id:Int),.int .i64 dn,.int .i64 di] h1 t1 h t)=>S'.dcall (dissue_any S'.S.D o ho dn))
 have HCAP:=Lib.hid (isu_cap h t o dn)
 have hE:=issE_lt h t o dn
 generalize issH h t o dn=h' at *
 generalize issT h t o dn=t' at *
 generalize issE h t o dn=E at *
 generalize issV h t o dn=V at *
 obtain⟨c0,c1,c2,c3,c4⟩:=HB.out.box.cells5
 clear S
 go_enter Tryz.func49,Tryz.ntmps49
 go_wp2_with fail
 refine (HP.out _ _ _ HB.out).mono ?_
 rintro e w1 ⟨rfl,HB1⟩
 clear c0 c1 c2 c3 c4 HP
 obtain⟨c0,c1,c2,c3,c4⟩:=HB1.out.box.cells5
 go_wp2_with fail
 refine (HQ.out _ _ _ HB1.out).mono ?_
 rintro e w2 ⟨rfl,HB2⟩
 clear c0 c1 c2 c3 c4 HQ
 go_wp2_with fail
 refine (HNU.out _ hE _).mono ?_
 rintro e w3 ⟨rfl,rfl⟩
 go_wp2_with fail
 go_ret
 exact⟨rfl,p,q,_,_,Lib.hid HB2.out.S,(by first | exact HCAP | exact Lib.hid rfl)⟩
set_option maxRecDepth 100000 in
set_option maxHeartbeats 8000000 in
theorem do1_any (h0:dk.tmod 10=1):Calls Tryz.prog 49 #[.pointer (some ⟨gt,0,none⟩),.pointer (some ⟨g,0,none⟩),.pointer (some ⟨kt,0,none⟩),.agg #[.int .i64 dk,.int .u32 (o:Int),.int .u64 (id:Int),.int .i64 dn,.int .i64 di]] w (DoP W g gt k kt kb t.cap w):=by
 have HB:=Lib.hid (S.boxed #[.int .i64 dk,.int .u32 (o:Int),.int .u64 (id:Int),.int .i64 dn,.int .i64 di])
 have HNU:=Lib.hid (fun E hE w'=>hnum_any E hE w')
 have HP:=Lib.hid (fun w' h2 t2 (S':DoB W w' p g gt q k kt kb w.heap.size #[.int .i64 dk,.int .u32 (o:Int),.int .u64 (id:Int),.int .i64 dn,.int .i64 di] h t h2 t2)=>S'.pcall (tissue_any S'.S.T o ho dn))
 have HQ:=Lib.hid (fun w' h1 t1 (S':DoB W w' p g gt q k kt kb w.heap.size #[.int .i64 dk,.int .u32 (o:Int),.int .u64 (id:Int),.int .i64 dn,.int .i64 di] h1 t1 h t)=>S'.dcall (dissue_any S'.S.D o ho dn))
 have HCAP:=Lib.hid (isu_cap h t o dn)
 have hE:=issE_lt h t o dn
 generalize issH h t o dn=h' at *
 generalize issT h t o dn=t' at *
 generalize issE h t o dn=E at *
 generalize issV h t o dn=V at *
 obtain⟨c0,c1,c2,c3,c4⟩:=HB.out.box.cells5
 clear S
 go_enter Tryz.func49,Tryz.ntmps49
 go_wp2_with fail
 refine (HP.out _ _ _ HB.out).mono ?_
 rintro e w1 ⟨rfl,HB1⟩
 clear c0 c1 c2 c3 c4 HP
 obtain⟨c0,c1,c2,c3,c4⟩:=HB1.out.box.cells5
 go_wp2_with fail
 refine (HQ.out _ _ _ HB1.out).mono ?_
 rintro e w2 ⟨rfl,HB2⟩
 clear c0 c1 c2 c3 c4 HQ
 go_wp2_with fail
 refine (HNU.out _ hE _).mono ?_
 rintro e w3 ⟨rfl,rfl⟩
 go_wp2_with fail
 go_ret
 exact⟨rfl,p,q,_,_,Lib.hid HB2.out.S,(by first | exact HCAP | exact Lib.hid rfl)⟩
set_option maxRecDepth 100000 in
set_option maxHeartbeats 8000000 in
theorem do2_any (h0:dk.tmod 10=2):Calls Tryz.prog 49 #[.pointer (some ⟨gt,0,none⟩),.pointer (some ⟨g,0,none⟩),.pointer (some ⟨kt,0,none⟩),.agg #[.int .i64 dk,.int .u32 (o:Int),.int .u64 (id:Int),.int .i64 dn,.int .i64 di]] w (DoP W g gt k kt kb t.cap w):=by
 have HB:=Lib.hid (S.boxed #[.int .i64 dk,.int .u32 (o:Int),.int .u64 (id:Int),.int .i64 dn,.int .i64 di])
 have HNU:=Lib.hid (fun E hE w'=>hnum_any E hE w')
 have HP:=Lib.hid (fun w' h2 t2 (S':DoB W w' p g gt q k kt kb w.heap.size #[.int .i64 dk,.int .u32 (o:Int),.int .u64 (id:Int),.int .i64 dn,.int .i64 di] h t h2 t2)=>S'.pcall (tissue_any S'.S.T o ho dn))
 have HQ:=Lib.hid (fun w' h1 t1 (S':DoB W w' p g gt q k kt kb w.heap.size #[.int .i64 dk,.int .u32 (o:Int),.int .u64 (id:Int),.int .i64 dn,.int .i64 di] h1 t1 h t)=>S'.dcall (dissue_any S'.S.D o ho dn))
 have HCAP:=Lib.hid (isu_cap h t o dn)
 have hE:=issE_lt h t o dn
 generalize issH h t o dn=h' at *
 generalize issT h t o dn=t' at *
 generalize issE h t o dn=E at *
 generalize issV h t o dn=V at *
 obtain⟨c0,c1,c2,c3,c4⟩:=HB.out.box.cells5
 clear S
 go_enter Tryz.func49,Tryz.ntmps49
 go_wp2_with fail
 refine (HP.out _ _ _ HB.out).mono ?_
 rintro e w1 ⟨rfl,HB1⟩
 clear c0 c1 c2 c3 c4 HP
 obtain⟨c0,c1,c2,c3,c4⟩:=HB1.out.box.cells5
 go_wp2_with fail
 refine (HQ.out _ _ _ HB1.out).mono ?_
 rintro e w2 ⟨rfl,HB2⟩
 clear c0 c1 c2 c3 c4 HQ
 go_wp2_with fail
 refine (HNU.out _ hE _).mono ?_
 rintro e w3 ⟨rfl,rfl⟩
 go_wp2_with fail
 go_ret
 exact⟨rfl,p,q,_,_,Lib.hid HB2.out.S,(by first | exact HCAP | exact Lib.hid rfl)⟩
end
end
section
open Go.RowKit
attribute [local go_sem] Oper.semAt_some
section
variable {W w:World} {p:HP} {g gt:Nat} {q:HP} {k kt kb:Nat} {h:HM} {t:TM} (S:DoS W w p g gt q k kt kb h t h t) (dk dn di:Int) (o id:Nat) (ho:o<4294967296) (hid:id<18446744073709551616) (hn1: -9223372036854775808≤dn) (hn2:dn≤9223372036854775807) (hi1: -9223372036854775808≤di) (hi2:di≤9223372036854775807)
include S ho hid hn1 hn2 hi1 hi2
set_option maxRecDepth 100000 in
set_option maxHeartbeats 8000000 in
theorem do3_any (h0:dk.tmod 10=3):Calls Tryz.prog 49 #[.pointer (some ⟨gt,0,none⟩),.pointer (some ⟨g,0,none⟩),.pointer (some ⟨kt,0,none⟩),.agg #[.int .i64 dk,.int .u32 (o:Int),.int .u64 (id:Int),.int .i64 dn,.int .i64 di]] w (DoP W g gt k kt kb t.cap w):=by
 have HB:=Lib.hid (S.boxed #[.int .i64 dk,.int .u32 (o:Int),.int .u64 (id:Int),.int .i64 dn,.int .i64 di])
 have HNU:=Lib.hid (fun E hE w'=>hnum_any E hE w')
 have HP:=Lib.hid (fun w' h2 t2 (S':DoB W w' p g gt q k kt kb w.heap.size #[.int .i64 dk,.int .u32 (o:Int),.int .u64 (id:Int),.int .i64 dn,.int .i64 di] h t h2 t2)=>tget_any S'.S.T id hid)
 have HQ:=Lib.hid (fun w' h1 t1 (S':DoB W w' p g gt q k kt kb w.heap.size #[.int .i64 dk,.int .u32 (o:Int),.int .u64 (id:Int),.int .i64 dn,.int .i64 di] h1 t1 h t)=>dget_any S'.S.D id hid)
 have HCAP:=Lib.hid (fun x:Nat=>show t.cap+x=t.cap+x from rfl)
 have hE:fndE h t id<4294967296:=fndE_lt h t id
 generalize fndE h t id=E at *
 generalize gotV h t id=V at *
 obtain⟨c0,c1,c2,c3,c4⟩:=HB.out.box.cells5
 clear S
 go_enter Tryz.func49,Tryz.ntmps49
 go_wp2_with fail
 refine (HP.out _ _ _ HB.out).mono ?_
 rintro e w1 ⟨rfl,hb1⟩
 have HB1:=Lib.hid (HB.out.after hb1)
 clear c0 c1 c2 c3 c4 HP
 obtain⟨c0,c1,c2,c3,c4⟩:=HB1.out.box.cells5
 go_wp2_with fail
 refine (HQ.out _ _ _ HB1.out).mono ?_
 rintro e w2 ⟨rfl,hb2⟩
 have HB2:=Lib.hid (HB1.out.after hb2)
 clear c0 c1 c2 c3 c4 HQ
 go_wp2_with fail
 refine (HNU.out _ hE _).mono ?_
 rintro e w3 ⟨rfl,rfl⟩
 go_wp2_with fail
 go_ret
 exact⟨rfl,p,q,_,_,Lib.hid HB2.out.S,(by first | exact HCAP | exact Lib.hid rfl)⟩
end
end
section
open Go.RowKit
attribute [local go_sem] Oper.semAt_some
section
variable {W w:World} {p:HP} {g gt:Nat} {q:HP} {k kt kb:Nat} {h:HM} {t:TM} (S:DoS W w p g gt q k kt kb h t h t) (dk dn di:Int) (o id:Nat) (ho:o<4294967296) (hid:id<18446744073709551616) (hn1: -9223372036854775808≤dn) (hn2:dn≤9223372036854775807) (hi1: -9223372036854775808≤di) (hi2:di≤9223372036854775807)
include S ho hid hn1 hn2 hi1 hi2
set_option maxRecDepth 100000 in
set_option maxHeartbeats 8000000 in
theorem do4_any (h0:dk.tmod 10=4):Calls Tryz.prog 49 #[.pointer (some ⟨gt,0,none⟩),.pointer (some ⟨g,0,none⟩),.pointer (some ⟨kt,0,none⟩),.agg #[.int .i64 dk,.int .u32 (o:Int),.int .u64 (id:Int),.int .i64 dn,.int .i64 di]] w (DoP W g gt k kt kb t.cap w):=by
 have HB:=Lib.hid (S.boxed #[.int .i64 dk,.int .u32 (o:Int),.int .u64 (id:Int),.int .i64 dn,.int .i64 di])
 have HNU:=Lib.hid (fun E hE w'=>hnum_any E hE w')
 have HP:=Lib.hid (fun w' h2 t2 (S':DoB W w' p g gt q k kt kb w.heap.size #[.int .i64 dk,.int .u32 (o:Int),.int .u64 (id:Int),.int .i64 dn,.int .i64 di] h t h2 t2)=>S'.pcall (trenew_any S'.S.T id hid dn))
 have HQ:=Lib.hid (fun w' h1 t1 (S':DoB W w' p g gt q k kt kb w.heap.size #[.int .i64 dk,.int .u32 (o:Int),.int .u64 (id:Int),.int .i64 dn,.int .i64 di] h1 t1 h t)=>S'.dcall (drenew_any S'.S.D id hid dn))
 have HCAP:=Lib.hid (rnw_cap h t id dn)
 have hE:=rnwE_lt h t id dn
 generalize rnwT h t id dn=t' at *
 generalize rnwE h t id dn=E at *
 have KC:=Lib.hid (show ∀ w' h1 t1 h2 t2,DoB W w' p g gt q k kt kb w.heap.size #[.int .i64 dk,.int .u32 (o:Int),.int .u64 (id:Int),.int .i64 dn,.int .i64 di] h1 t1 h2 t2→w'.cell? ⟨w.heap.size,2,none⟩=some (.int .u64 (id:Int))∧w'.cell? ⟨w.heap.size,3,none⟩=some (.int .i64 dn) from fun w' h1 t1 h2 t2 S'=>by
  obtain⟨c0,c1,c2,c3,c4⟩:=S'.box.cells5
  exact⟨c2,c3⟩)
 obtain⟨c0,c1,c2,c3,c4⟩:=HB.out.box.cells5
 clear S
 go_enter Tryz.func49,Tryz.ntmps49
 go_upto_region 13 with fail
 generalize hW:w.alloc (.cells #[.int .i64 dk,.int .u32 (o:Int),.int .u64 (id:Int),.int .i64 dn,.int .i64 di] 72)=W1 at *
 clear hW
 go_region_held3 (fun w'=>w'.cell? ⟨w.heap.size,2,none⟩=some (.int .u64 (id:Int))∧w'.cell? ⟨w.heap.size,3,none⟩=some (.int .i64 dn))
  (first | with_reducible exact KC.out _ _ _ _ _ HB.out.drew | with_reducible exact KC.out _ _ _ _ _ HB1.out | with_reducible exact KC.out _ _ _ _ _ HB2.out)
  (first
    | (go_at_call 29; (with_reducible refine (HP.out _ _ _ HB.out.drew).mono ?_); rintro e w1 ⟨rfl,HB1⟩)
    | (go_at_call 24; (with_reducible refine (HNU.out _ hE _).mono ?_); rintro e w3 ⟨rfl,rfl⟩)
    | (go_at_call 118; (with_reducible refine (HQ.out _ _ _ HB1.out).mono ?_); rintro e w2 ⟨rfl,HB2⟩))
 all_goals go_wp2_with fail
 all_goals go_ret
 all_goals exact⟨rfl,p,q,_,_,Lib.hid HB2.out.S,(by first | exact HCAP | exact Lib.hid rfl)⟩
end
end
section
open Go.RowKit
attribute [local go_sem] Oper.semAt_some
section
variable {W w:World} {p:HP} {g gt:Nat} {q:HP} {k kt kb:Nat} {h:HM} {t:TM} (S:DoS W w p g gt q k kt kb h t h t) (dk dn di:Int) (o id:Nat) (ho:o<4294967296) (hid:id<18446744073709551616) (hn1: -9223372036854775808≤dn) (hn2:dn≤9223372036854775807) (hi1: -9223372036854775808≤di) (hi2:di≤9223372036854775807)
include S ho hid hn1 hn2 hi1 hi2
set_option maxRecDepth 100000 in
set_option maxHeartbeats 8000000 in
theorem do5_any (h0:dk.tmod 10=5):Calls Tryz.prog 49 #[.pointer (some ⟨gt,0,none⟩),.pointer (some ⟨g,0,none⟩),.pointer (some ⟨kt,0,none⟩),.agg #[.int .i64 dk,.int .u32 (o:Int),.int .u64 (id:Int),.int .i64 dn,.int .i64 di]] w (DoP W g gt k kt kb t.cap w):=by
 have HB:=Lib.hid (S.boxed #[.int .i64 dk,.int .u32 (o:Int),.int .u64 (id:Int),.int .i64 dn,.int .i64 di])
 have HNU:=Lib.hid (fun E hE w'=>hnum_any E hE w')
 have HP:=Lib.hid (fun w' h2 t2 (S':DoB W w' p g gt q k kt kb w.heap.size #[.int .i64 dk,.int .u32 (o:Int),.int .u64 (id:Int),.int .i64 dn,.int .i64 di] h t h2 t2)=>S'.pcall (trelease_any S'.S.T id hid))
 have HQ:=Lib.hid (fun w' h1 t1 (S':DoB W w' p g gt q k kt kb w.heap.size #[.int .i64 dk,.int .u32 (o:Int),.int .u64 (id:Int),.int .i64 dn,.int .i64 di] h1 t1 h t)=>S'.dcall (drelease_any S'.S.D id hid))
 have HCAP:=Lib.hid (rel_cap h t id)
 have hE:=fndE_lt h t id
 generalize relT h t id=t' at *
 generalize relH h t id=h' at *
 generalize fndE h t id=E at *
 have KC:=Lib.hid (show ∀ w' h1 t1 h2 t2,DoB W w' p g gt q k kt kb w.heap.size #[.int .i64 dk,.int .u32 (o:Int),.int .u64 (id:Int),.int .i64 dn,.int .i64 di] h1 t1 h2 t2→w'.cell? ⟨w.heap.size,2,none⟩=some (.int .u64 (id:Int)) from fun w' h1 t1 h2 t2 S'=>by
  obtain⟨c0,c1,c2,c3,c4⟩:=S'.box.cells5
  exact c2)
 obtain⟨c0,c1,c2,c3,c4⟩:=HB.out.box.cells5
 clear S
 go_enter Tryz.func49,Tryz.ntmps49
 go_upto_region 15 with fail
 generalize hW:w.alloc (.cells #[.int .i64 dk,.int .u32 (o:Int),.int .u64 (id:Int),.int .i64 dn,.int .i64 di] 72)=W1 at *
 clear hW
 go_region_held3 (fun w'=>w'.cell? ⟨w.heap.size,2,none⟩=some (.int .u64 (id:Int)))
  (first | with_reducible exact KC.out _ _ _ _ _ HB.out.drew | with_reducible exact KC.out _ _ _ _ _ HB1.out | with_reducible exact KC.out _ _ _ _ _ HB2.out)
  (first
    | (go_at_call 33; (with_reducible refine (HP.out _ _ _ HB.out.drew).mono ?_); rintro e w1 ⟨rfl,HB1⟩)
    | (go_at_call 24; (with_reducible refine (HNU.out _ hE _).mono ?_); rintro e w3 ⟨rfl,rfl⟩)
    | (go_at_call 119; (with_reducible refine (HQ.out _ _ _ HB1.out).mono ?_); rintro e w2 ⟨rfl,HB2⟩))
 all_goals go_wp2_with fail
 all_goals go_ret
 all_goals exact⟨rfl,p,q,_,_,Lib.hid HB2.out.S,(by first | exact HCAP | exact Lib.hid rfl)⟩
end
end
section
open Go.RowKit
attribute [local go_sem] Oper.semAt_some
section
variable {W w:World} {p:HP} {g gt:Nat} {q:HP} {k kt kb:Nat} {h:HM} {t:TM} (S:DoS W w p g gt q k kt kb h t h t) (dk dn di:Int) (o id:Nat) (ho:o<4294967296) (hid:id<18446744073709551616) (hn1: -9223372036854775808≤dn) (hn2:dn≤9223372036854775807) (hi1: -9223372036854775808≤di) (hi2:di≤9223372036854775807)
include S ho hid hn1 hn2 hi1 hi2
set_option maxRecDepth 100000 in
set_option maxHeartbeats 8000000 in
theorem do6_any (h0:dk.tmod 10=6):Calls Tryz.prog 49 #[.pointer (some ⟨gt,0,none⟩),.pointer (some ⟨g,0,none⟩),.pointer (some ⟨kt,0,none⟩),.agg #[.int .i64 dk,.int .u32 (o:Int),.int .u64 (id:Int),.int .i64 dn,.int .i64 di]] w (DoP W g gt k kt kb t.cap w):=by
 have HB:=Lib.hid (S.boxed #[.int .i64 dk,.int .u32 (o:Int),.int .u64 (id:Int),.int .i64 dn,.int .i64 di])
 have HNU:=Lib.hid (fun E hE w'=>hnum_any E hE w')
 have HCAP:=Lib.hid (tik_cap h t dn)
 have hE:=tikE_lt h t dn
 have HP:=Lib.hid (fun w' h2 t2 (S':DoB W w' p g gt q k kt kb w.heap.size #[.int .i64 dk,.int .u32 (o:Int),.int .u64 (id:Int),.int .i64 dn,.int .i64 di] h t h2 t2)=>(ttick_any S'.S.T dn hn1 hn2).mono fun e w2 hh=>show ∃ A c,e = .returned (.tuple #[.slice A (tikL h t dn).length c,.int .i64 (tikE h t dn:Nat)])∧Hid (DoB W w2 p g gt q k kt kb w.heap.size #[.int .i64 dk,.int .u32 (o:Int),.int .u64 (id:Int),.int .i64 dn,.int .i64 di] (tikH h t dn) (tikT h t dn) h2 t2)∧Hid (w2.ownsRow w'.heap.size 47 1 (.slice A (tikL h t dn).length c) (tikL h t dn).length (u64s (tikL h t dn))) from by
  obtain⟨v,rfl,ho,T',K⟩:=hh
  obtain⟨A,c,rfl⟩:=own_val ho
  exact⟨A,c,rfl,Lib.hid (S'.prog T' K),Lib.hid ho⟩)
 have HQ:=Lib.hid (fun w' h1 t1 (S':DoB W w' p g gt q k kt kb w.heap.size #[.int .i64 dk,.int .u32 (o:Int),.int .u64 (id:Int),.int .i64 dn,.int .i64 di] h1 t1 h t) (w0:World) (A0:Option Addr) (c0:Nat) (HO:Hid (w'.ownsRow w0.heap.size 47 1 (.slice A0 (tikL h t dn).length c0) (tikL h t dn).length (u64s (tikL h t dn)))) (hlt:∀ j,q.has j∨j=kt∨j=kb→j<w0.heap.size)=>(dtick_any S'.S.D dn hn1 hn2).mono fun e w2 hh=>show ∃ A c,e = .returned (.tuple #[.slice A (tikL h t dn).length c,.int .i64 (tikE h t dn:Nat)])∧Hid (DoB W w2 p g gt q k kt kb w.heap.size #[.int .i64 dk,.int .u32 (o:Int),.int .u64 (id:Int),.int .i64 dn,.int .i64 di] h1 t1 (tikH h t dn) (tikT h t dn))∧Hid (Calls Tryz.prog 121 #[.slice A0 (tikL h t dn).length c0,.slice A (tikL h t dn).length c] w2 (Told (.bool true) w2)) from by
  obtain⟨v,rfl,ho,D',K⟩:=hh
  obtain⟨A,c,hv,hr,hn⟩:=own_readsH ho
  subst hv
  have ho1:=own_keep HO.out (fun j hj=>K.block j (HO.out.lt j hj).2 (fun hh=>by have h1:=(HO.out.lt j hj).1; have h2:=hlt j (.inl hh); omega) (fun hh=>by have h1:=(HO.out.lt j hj).1; have h2:=hlt j (.inr (.inl hh)); omega) (fun hh=>by have h1:=(HO.out.lt j hj).1; have h2:=hlt j (.inr (.inr hh)); omega))
  obtain⟨A1,c1,hv1,hr1,hn1⟩:=own_readsH ho1
  injection hv1 with e1 e2 e3
  subst e1 e3
  have hs:=sameIDs_any A0 A _ _ c0 c _ _ w2 hn1 hn hr1 hr
  rw [sameL_self] at hs
  exact⟨A,c,rfl,Lib.hid (S'.doc D' K),Lib.hid hs⟩)
 have HLT:=Lib.hid HB.out.S.D.lt
 generalize tikH h t dn=h' at *
 generalize tikT h t dn=t' at *
 generalize tikE h t dn=E at *
 generalize tikL h t dn=L at *
 obtain⟨c0,c1,c2,c3,c4⟩:=HB.out.box.cells5
 clear S
 go_enter Tryz.func49,Tryz.ntmps49
 go_wp2_with fail
 refine (HP.out _ _ _ HB.out).mono ?_
 rintro e w1 ⟨A1,e1,rfl,HB1,HO1⟩
 clear c0 c1 c2 c3 c4 HP
 obtain⟨c0,c1,c2,c3,c4⟩:=HB1.out.box.cells5
 go_wp2_with fail
 refine (HQ.out _ _ _ HB1.out _ _ _ HO1 HLT.out).mono ?_
 rintro e w2 ⟨A2,e2,rfl,HB2,HSI⟩
 clear c0 c1 c2 c3 c4 HQ
 go_wp2_with fail
 refine HSI.out.mono ?_
 rintro e w3 ⟨rfl,hb3⟩
 have HB3:=Lib.hid (HB2.out.after hb3)
 go_wp2_with fail
 refine (HNU.out _ hE _).mono ?_
 rintro e w4 ⟨rfl,rfl⟩
 go_wp2_with fail
 go_ret
 exact⟨rfl,p,q,_,_,Lib.hid HB3.out.S,(by first | exact HCAP | exact Lib.hid rfl)⟩
end
end
section
open Go.RowKit
attribute [local go_sem] Oper.semAt_some
section
variable {W w:World} {p:HP} {g gt:Nat} {q:HP} {k kt kb:Nat} {h:HM} {t:TM} (S:DoS W w p g gt q k kt kb h t h t) (dk dn di:Int) (o id:Nat) (ho:o<4294967296) (hid:id<18446744073709551616) (hn1: -9223372036854775808≤dn) (hn2:dn≤9223372036854775807) (hi1: -9223372036854775808≤di) (hi2:di≤9223372036854775807)
include S ho hid hn1 hn2 hi1 hi2
set_option maxRecDepth 100000 in
set_option maxHeartbeats 8000000 in
theorem do8_any (h0:dk.tmod 10=8) (h1:di.tmod 20=0):Calls Tryz.prog 49 #[.pointer (some ⟨gt,0,none⟩),.pointer (some ⟨g,0,none⟩),.pointer (some ⟨kt,0,none⟩),.agg #[.int .i64 dk,.int .u32 (o:Int),.int .u64 (id:Int),.int .i64 dn,.int .i64 di]] w (DoP W g gt k kt kb t.cap w):=by
 have HB:=Lib.hid (S.boxed #[.int .i64 dk,.int .u32 (o:Int),.int .u64 (id:Int),.int .i64 dn,.int .i64 di])
 have HNU:=Lib.hid (fun E hE w'=>hnum_any E hE w')
 have HP:=Lib.hid (fun w' h2 t2 (S':DoB W w' p g gt q k kt kb w.heap.size #[.int .i64 dk,.int .u32 (o:Int),.int .u64 (id:Int),.int .i64 dn,.int .i64 di] h t h2 t2)=>S'.pcall (tclearAll_any S'.S.T))
 have HQ:=Lib.hid (fun w' h1 t1 (S':DoB W w' p g gt q k kt kb w.heap.size #[.int .i64 dk,.int .u32 (o:Int),.int .u64 (id:Int),.int .i64 dn,.int .i64 di] h1 t1 h t)=>S'.dcall (dclearAll_any S'.S.D))
 have HCAP:=Lib.hid (cle_cap h t)
 generalize cleH h t=h' at *
 generalize cleT h t=t' at *
 generalize cleN h t=E at *
 obtain⟨c0,c1,c2,c3,c4⟩:=HB.out.box.cells5
 clear S
 go_enter Tryz.func49,Tryz.ntmps49
 go_wp2_with fail
 refine (HP.out _ _ _ HB.out).mono ?_
 rintro e w1 ⟨rfl,HB1⟩
 clear c0 c1 c2 c3 c4 HP
 go_wp2_with fail
 refine (HQ.out _ _ _ HB1.out).mono ?_
 rintro e w2 ⟨rfl,HB2⟩
 go_wp2_with fail
 go_ret
 exact⟨rfl,p,q,_,_,Lib.hid HB2.out.S,(by first | exact HCAP | exact Lib.hid rfl)⟩
set_option maxRecDepth 100000 in
set_option maxHeartbeats 8000000 in
theorem do8n_any (h0:dk.tmod 10=8) (h1:¬ di.tmod 20=0):Calls Tryz.prog 49 #[.pointer (some ⟨gt,0,none⟩),.pointer (some ⟨g,0,none⟩),.pointer (some ⟨kt,0,none⟩),.agg #[.int .i64 dk,.int .u32 (o:Int),.int .u64 (id:Int),.int .i64 dn,.int .i64 di]] w (DoP W g gt k kt kb t.cap w):=by
 have HB:=Lib.hid (S.boxed #[.int .i64 dk,.int .u32 (o:Int),.int .u64 (id:Int),.int .i64 dn,.int .i64 di])
 have HNU:=Lib.hid (fun E hE w'=>hnum_any E hE w')
 have HCAP:=Lib.hid (fun x:Nat=>show t.cap+x=t.cap+x from rfl)
 have hb:(di.tmod 20 == 0)=false:=by simpa using h1
 obtain⟨c0,c1,c2,c3,c4⟩:=HB.out.box.cells5
 clear S
 go_enter Tryz.func49,Tryz.ntmps49
 go_wp2_with fail
 go_ret
 exact⟨rfl,p,q,_,_,Lib.hid HB.out.S,(by first | exact HCAP | exact Lib.hid rfl)⟩
end
end
section
open Go.RowKit
attribute [local go_sem] Oper.semAt_some
section
variable {W w:World} {p:HP} {g gt:Nat} {q:HP} {k kt kb:Nat} {h:HM} {t:TM} (S:DoS W w p g gt q k kt kb h t h t) (dk dn di:Int) (o id:Nat) (ho:o<4294967296) (hid:id<18446744073709551616) (hn1: -9223372036854775808≤dn) (hn2:dn≤9223372036854775807) (hi1: -9223372036854775808≤di) (hi2:di≤9223372036854775807)
include S ho hid hn1 hn2 hi1 hi2
set_option maxRecDepth 100000 in
set_option maxHeartbeats 8000000 in
theorem do7_any (h0:dk.tmod 10=7):Calls Tryz.prog 49 #[.pointer (some ⟨gt,0,none⟩),.pointer (some ⟨g,0,none⟩),.pointer (some ⟨kt,0,none⟩),.agg #[.int .i64 dk,.int .u32 (o:Int),.int .u64 (id:Int),.int .i64 dn,.int .i64 di]] w (DoP W g gt k kt kb t.cap w):=by
 have HB:=Lib.hid (S.boxed #[.int .i64 dk,.int .u32 (o:Int),.int .u64 (id:Int),.int .i64 dn,.int .i64 di])
 have HNU:=Lib.hid (fun E hE w'=>hnum_any E hE w')
 have HCAP:=Lib.hid (fun x:Nat=>show t.cap+x=t.cap+x from rfl)
 obtain⟨l,G⟩:=S.T.live.good
 have HG:=Lib.hid G
 have HPC:=Lib.hid (HB.out.pcol G)
 have HQ:=Lib.hid (fun w' p' h1 t1 (S':DoB W w' p' g gt q k kt kb w.heap.size #[.int .i64 dk,.int .u32 (o:Int),.int .u64 (id:Int),.int .i64 dn,.int .i64 di] h1 t1 h t)=>(collected_any S'.S.D.doc G).mono fun e w2 hh=>show ∃ x:HP,e = .returned (.pointer (some ⟨x.g,0,none⟩))∧Hid (CollP h l w' e w2)∧Hid (RAt w2 x (colH h l)∧(∀ j,x.has j→w'.heap.size≤j)∧Below w'.heap.size w' w2) from by
  have hh':=hh
  obtain⟨x,rfl,h1,h2,h3⟩:=hh
  exact⟨x,rfl,Lib.hid hh',Lib.hid ⟨h1,h2,h3⟩⟩)
 have hk:=S.D.hk
 unfold ptr at HQ
 rw [hk] at HQ
 obtain⟨x0,x1,x2,x3,x4,hcv⟩:=colV_ints h l
 rw [hcv] at HPC
 clear G hk hcv
 obtain⟨c0,c1,c2,c3,c4⟩:=HB.out.box.cells5
 clear S
 go_enter Tryz.func49,Tryz.ntmps49
 go_wp2_with fail
 refine HPC.out.mono ?_
 rintro e w1 ⟨rfl,p',HB1⟩
 clear c0 c1 c2 c3 c4 HPC
 have y0:=HB1.out.S.D.c0
 go_wp2_with fail
 refine (HQ.out _ _ _ _ HB1.out).mono ?_
 rintro e w2 ⟨x,rfl,-,HX⟩
 clear HQ y0
 have R:=HX.out.1
 have y0:=(HB1.out.after HX.out.2.2).S.D.c0
 have z1:=R.c1
 have z2:=R.c2
 have z4:=R.c4
 have D2:=(HB1.out.after HX.out.2.2).S.D
 have hk:=D2.hk
 have k1:=D2.doc.c1
 have k2:=D2.doc.c2
 have k4:=D2.doc.c4
 have kz:=D2.doc.1.fz
 have kl:=D2.doc.1.lt
 rw [hk] at k1 k2 k4 kz kl
 have nx:x.g≠k:=fun e=>by have h1:=HX.out.2.1 x.g (.inl rfl); have h2:=HB1.out.S.D.doc.lt (.inl rfl:q.has q.g); have h3:=HB1.out.S.D.hk; omega
 have nt:kt≠k:=fun e=>D2.apart.1 (.inl (by rw [hk]; exact e))
 have HF:=Lib.hid (HB1.out.dcol HG.out HX.out.2.2 R HX.out.2.1)
 clear R D2
 generalize (colH h l).words.length=m1 at *
 generalize (colH h l).roots.length=m2 at *
 generalize (colH h l).starts.length=m4 at *
 have KC:=Lib.hid (show ∀ w',OffK k w2 w'→w'.cell? ⟨kt,0,none⟩=some (.pointer (some ⟨k,0,none⟩))∧w'.cell? ⟨x.g,1,none⟩=some (.slice (some ⟨x.gw,0,none⟩) m1 x.cw)∧w'.cell? ⟨x.g,2,none⟩=some (.slice (some ⟨x.gr,0,none⟩) m2 x.cr)∧w'.cell? ⟨x.g,4,none⟩=some (.slice (some ⟨x.gs,0,none⟩) m4 x.cs) from fun w' ho=>⟨ho.cell nt y0,ho.cell nx z1,ho.cell nx z2,ho.cell nx z4⟩)
 go_upto_region 25 with fail
 go_region_held3 (fun w'=>w'.cell? ⟨kt,0,none⟩=some (.pointer (some ⟨k,0,none⟩))∧w'.cell? ⟨x.g,1,none⟩=some (.slice (some ⟨x.gw,0,none⟩) m1 x.cw)∧w'.cell? ⟨x.g,2,none⟩=some (.slice (some ⟨x.gr,0,none⟩) m2 x.cr)∧w'.cell? ⟨x.g,4,none⟩=some (.slice (some ⟨x.gs,0,none⟩) m4 x.cs)) (with_reducible refine KC.out _ ?_; (repeat (first | with_reducible exact OffK.refl _ _ | with_reducible apply OffK.drew | with_reducible apply OffK.set))) (fail)
 all_goals go_wp2_with fail
 all_goals go_ret
 obtain⟨q',HBF⟩:=HF.out
 exact⟨rfl,p',q',_,_,Lib.hid HBF.drew.S,(by first | exact HCAP | exact Lib.hid rfl)⟩
end
end
section
open Go.RowKit
attribute [local go_sem] Oper.semAt_some
section
variable {W w:World} {p:HP} {g gt:Nat} {q:HP} {k kt kb:Nat} {h:HM} {t:TM} (S:DoS W w p g gt q k kt kb h t h t) (dk dn di:Int) (o id:Nat) (ho:o<4294967296) (hid:id<18446744073709551616) (hn1: -9223372036854775808≤dn) (hn2:dn≤9223372036854775807) (hi1: -9223372036854775808≤di) (hi2:di≤9223372036854775807)
include S ho hid hn1 hn2 hi1 hi2
set_option maxRecDepth 100000 in
set_option maxHeartbeats 8000000 in
theorem doSR_any (h0:¬ dk.tmod 10=0) (h1:¬ dk.tmod 10=1) (h2:¬ dk.tmod 10=2) (h3:¬ dk.tmod 10=3) (h4:¬ dk.tmod 10=4) (h5:¬ dk.tmod 10=5) (h6:¬ dk.tmod 10=6) (h7:¬ dk.tmod 10=7) (h8:¬ dk.tmod 10=8) (h9:¬ di.tmod 3=0):Calls Tryz.prog 49 #[.pointer (some ⟨gt,0,none⟩),.pointer (some ⟨g,0,none⟩),.pointer (some ⟨kt,0,none⟩),.agg #[.int .i64 dk,.int .u32 (o:Int),.int .u64 (id:Int),.int .i64 dn,.int .i64 di]] w (DoP W g gt k kt kb t.cap w):=by
 have HB:=Lib.hid (S.boxed #[.int .i64 dk,.int .u32 (o:Int),.int .u64 (id:Int),.int .i64 dn,.int .i64 di])
 have HNU:=Lib.hid (fun E hE w'=>hnum_any E hE w')
 have n0:(dk.tmod 10 == 0)=false:=by simpa using h0
 have n1:(dk.tmod 10 == 1)=false:=by simpa using h1
 have n2:(dk.tmod 10 == 2)=false:=by simpa using h2
 have n3:(dk.tmod 10 == 3)=false:=by simpa using h3
 have n4:(dk.tmod 10 == 4)=false:=by simpa using h4
 have n5:(dk.tmod 10 == 5)=false:=by simpa using h5
 have n6:(dk.tmod 10 == 6)=false:=by simpa using h6
 have n7:(dk.tmod 10 == 7)=false:=by simpa using h7
 have n8:(dk.tmod 10 == 8)=false:=by simpa using h8
 clear h0 h1 h2 h3 h4 h5 h6 h7 h8
 have hb9:(di.tmod 3 != 0)=true:=by simpa using h9
 clear h9
 have HP:=Lib.hid (fun w' h2 t2 (S':DoB W w' p g gt q k kt kb w.heap.size #[.int .i64 dk,.int .u32 (o:Int),.int .u64 (id:Int),.int .i64 dn,.int .i64 di] h t h2 t2)=>S'.pcall (S'.S.T.setRoot di o ho))
 have HQ:=Lib.hid (fun w' h1 t1 (S':DoB W w' p g gt q k kt kb w.heap.size #[.int .i64 dk,.int .u32 (o:Int),.int .u64 (id:Int),.int .i64 dn,.int .i64 di] h1 t1 h t)=>S'.dcall (S'.S.D.setRoot di hi2 o ho))
 have HCAP:=Lib.hid (fun x:Nat=>show t.cap+x=t.cap+x from rfl)
 have hE:=setRootE_ltK h di o
 generalize h.setRootH di o=h' at *
 generalize h.setRootE di o=E at *
 have KC:=Lib.hid (show ∀ w' h1 t1 h2 t2,DoB W w' p g gt q k kt kb w.heap.size #[.int .i64 dk,.int .u32 (o:Int),.int .u64 (id:Int),.int .i64 dn,.int .i64 di] h1 t1 h2 t2→w'.cell? ⟨w.heap.size,1,none⟩=some (.int .u32 (o:Int))∧w'.cell? ⟨w.heap.size,4,none⟩=some (.int .i64 di)∧w'.cell? ⟨kt,0,none⟩=some (.pointer (some ⟨k,0,none⟩)) from fun w' h1 t1 h2 t2 S'=>by
  obtain⟨c0,c1,c2,c3,c4⟩:=S'.box.cells5
  exact⟨c1,c4,S'.S.D.c0⟩)
 obtain⟨c0,c1,c2,c3,c4⟩:=HB.out.box.cells5
 clear S
 go_enter Tryz.func49,Tryz.ntmps49
 go_upto_region 32 with fail
 generalize hW:w.alloc (.cells #[.int .i64 dk,.int .u32 (o:Int),.int .u64 (id:Int),.int .i64 dn,.int .i64 di] 72)=W1 at *
 clear hW
 go_region_held3 (fun w'=>w'.cell? ⟨w.heap.size,1,none⟩=some (.int .u32 (o:Int))∧w'.cell? ⟨w.heap.size,4,none⟩=some (.int .i64 di)∧w'.cell? ⟨kt,0,none⟩=some (.pointer (some ⟨k,0,none⟩)))
  (first | with_reducible exact KC.out _ _ _ _ _ HB.out.drew | with_reducible exact KC.out _ _ _ _ _ HB1.out | with_reducible exact KC.out _ _ _ _ _ HB2.out)
  (first
    | (go_at_call 77; (with_reducible refine (HP.out _ _ _ HB.out.drew).mono ?_); rintro e w1 ⟨rfl,HB1⟩)
    | (go_at_call 24; (with_reducible refine (HNU.out _ hE _).mono ?_); rintro e w3 ⟨rfl,rfl⟩)
    | (go_at_call 79; (with_reducible refine (HQ.out _ _ _ HB1.out).mono ?_); rintro e w2 ⟨rfl,HB2⟩))
 all_goals go_wp2_with fail
 all_goals go_ret
 all_goals exact⟨rfl,p,q,_,_,Lib.hid HB2.out.S,(by first | exact HCAP | exact Lib.hid rfl)⟩
end
end
section
open Go.RowKit
attribute [local go_sem] Oper.semAt_some
section
variable {W w:World} {p:HP} {g gt:Nat} {q:HP} {k kt kb:Nat} {h:HM} {t:TM} (S:DoS W w p g gt q k kt kb h t h t) (dk dn di:Int) (o id:Nat) (ho:o<4294967296) (hid:id<18446744073709551616) (hn1: -9223372036854775808≤dn) (hn2:dn≤9223372036854775807) (hi1: -9223372036854775808≤di) (hi2:di≤9223372036854775807)
include S ho hid hn1 hn2 hi1 hi2
set_option maxRecDepth 100000 in
set_option maxHeartbeats 8000000 in
theorem do9_any (h0:¬ dk.tmod 10=0) (h1:¬ dk.tmod 10=1) (h2:¬ dk.tmod 10=2) (h3:¬ dk.tmod 10=3) (h4:¬ dk.tmod 10=4) (h5:¬ dk.tmod 10=5) (h6:¬ dk.tmod 10=6) (h7:¬ dk.tmod 10=7) (h8:¬ dk.tmod 10=8) (h9:di.tmod 3=0):Calls Tryz.prog 49 #[.pointer (some ⟨gt,0,none⟩),.pointer (some ⟨g,0,none⟩),.pointer (some ⟨kt,0,none⟩),.agg #[.int .i64 dk,.int .u32 (o:Int),.int .u64 (id:Int),.int .i64 dn,.int .i64 di]] w (DoP W g gt k kt kb t.cap w):=by
 have HB:=Lib.hid (S.boxed #[.int .i64 dk,.int .u32 (o:Int),.int .u64 (id:Int),.int .i64 dn,.int .i64 di])
 have HNU:=Lib.hid (fun E hE w'=>hnum_any E hE w')
 have n0:(dk.tmod 10 == 0)=false:=by simpa using h0
 have n1:(dk.tmod 10 == 1)=false:=by simpa using h1
 have n2:(dk.tmod 10 == 2)=false:=by simpa using h2
 have n3:(dk.tmod 10 == 3)=false:=by simpa using h3
 have n4:(dk.tmod 10 == 4)=false:=by simpa using h4
 have n5:(dk.tmod 10 == 5)=false:=by simpa using h5
 have n6:(dk.tmod 10 == 6)=false:=by simpa using h6
 have n7:(dk.tmod 10 == 7)=false:=by simpa using h7
 have n8:(dk.tmod 10 == 8)=false:=by simpa using h8
 clear h0 h1 h2 h3 h4 h5 h6 h7 h8
 have hb9:(di.tmod 3 != 0)=false:=by simpa using h9
 clear h9
 have hj1: -4<di.tmod 4:=Int.lt_tmod_of_pos _ (by decide)
 have hj2:di.tmod 4<4:=Int.tmod_lt_of_pos _ (by decide)
 have HCAP:=Lib.hid (fun x:Nat=>show t.cap+x=t.cap+x from rfl)
 have harr:=arr_lt S.D.fit
 have HRT:=Lib.hid (fun w' h2 t2 (S':DoB W w' p g gt q k kt kb w.heap.size #[.int .i64 dk,.int .u32 (o:Int),.int .u64 (id:Int),.int .i64 dn,.int .i64 di] h t h2 t2)=>S'.S.T.live.root 40)
 have hro:(h.rootN 40:Nat)=h.arr:=rfl
 have hre:rootE 40=0:=rfl
 rw [hro,hre] at HRT
 have HPC:=Lib.hid (fun w' h2 t2 (S':DoB W w' p g gt q k kt kb w.heap.size #[.int .i64 dk,.int .u32 (o:Int),.int .u64 (id:Int),.int .i64 dn,.int .i64 di] h t h2 t2)=>S'.pcall (S'.S.T.put h.arr harr (di.tmod 4) o ho))
 have KC:=Lib.hid (show ∀ w' h1 t1 h2 t2,DoB W w' p g gt q k kt kb w.heap.size #[.int .i64 dk,.int .u32 (o:Int),.int .u64 (id:Int),.int .i64 dn,.int .i64 di] h1 t1 h2 t2→h2.arr=h.arr→w'.cell? ⟨w.heap.size,1,none⟩=some (.int .u32 (o:Int))∧w'.cell? ⟨w.heap.size,4,none⟩=some (.int .i64 di)∧w'.cell? ⟨kt,0,none⟩=some (.pointer (some ⟨k,0,none⟩))∧w'.cell? ⟨k,2,none⟩=some (.slice (some ⟨q.gr,0,none⟩) 64 q.cr)∧w'.cell? ⟨q.gr,40,none⟩=some (.int .u32 (h.arr:Nat)) from fun w' h1 t1 h2 t2 S' he=>by
  obtain⟨c0,c1,c2,c3,c4⟩:=S'.box.cells5
  have ha:=S'.S.D.arrs
  rw [he] at ha
  exact⟨c1,c4,S'.S.D.c0,ha.1,ha.2.1⟩)
 have HQ:=Lib.hid (fun w' h1 t1 (S':DoB W w' p g gt q k kt kb w.heap.size #[.int .i64 dk,.int .u32 (o:Int),.int .u64 (id:Int),.int .i64 dn,.int .i64 di] h1 t1 h t)=>(S'.S.D.put h.arr harr (di.tmod 4) (by omega) o ho).mono fun e w2 hh=>show e = .returned (.int .i64 (h.putE h.arr (di.tmod 4) o:Nat))∧Hid (DoB W w2 p g gt q k kt kb w.heap.size #[.int .i64 dk,.int .u32 (o:Int),.int .u64 (id:Int),.int .i64 dn,.int .i64 di] h1 t1 (h.putH h.arr (di.tmod 4) o) t) from
  ⟨hh.1,Lib.hid (S'.doc hh.2.1 hh.2.2)⟩)
 have hsame:(h.putH h.arr (di.tmod 4) o).arr=h.arr:=by unfold HM.arr; rw [(putH_same ..).2.2.1]
 have hE:=putE_ltK h h.arr (di.tmod 4) o
 clear harr hro hre
 generalize h.putH h.arr (di.tmod 4) o=h' at *
 generalize h.putE h.arr (di.tmod 4) o=E at *
 obtain⟨c0,c1,c2,c3,c4⟩:=HB.out.box.cells5
 clear S
 go_enter Tryz.func49,Tryz.ntmps49
 go_wp2_with fail
 refine (HRT.out _ _ _ HB.out).mono ?_
 rintro e w1 ⟨rfl,rfl⟩
 go_upto_region 34 with fail
 generalize hW:w.alloc (.cells #[.int .i64 dk,.int .u32 (o:Int),.int .u64 (id:Int),.int .i64 dn,.int .i64 di] 72)=W1 at *
 clear hW
 generalize har:h.arr=ar at HPC HQ KC
 go_region_held3 (fun w'=>w'.cell? ⟨w.heap.size,1,none⟩=some (.int .u32 (o:Int))∧w'.cell? ⟨w.heap.size,4,none⟩=some (.int .i64 di)∧w'.cell? ⟨kt,0,none⟩=some (.pointer (some ⟨k,0,none⟩))∧w'.cell? ⟨k,2,none⟩=some (.slice (some ⟨q.gr,0,none⟩) 64 q.cr)∧w'.cell? ⟨q.gr,40,none⟩=some (.int .u32 (ar:Nat)))
  (first | with_reducible exact KC.out _ _ _ _ _ HB.out.drew har | with_reducible exact KC.out _ _ _ _ _ HB1.out har | with_reducible exact KC.out _ _ _ _ _ HB2.out (hsame.trans har))
  (first
    | (go_at_call 105; (with_reducible refine (HPC.out _ _ _ HB.out.drew).mono ?_); rintro e w1 ⟨rfl,HB1⟩)
    | (go_at_call 24; (with_reducible refine (HNU.out _ hE _).mono ?_); rintro e w3 ⟨rfl,rfl⟩)
    | (go_at_call 124; (with_reducible refine (HQ.out _ _ _ HB1.out).mono ?_); rintro e w2 ⟨rfl,HB2⟩))
 all_goals go_wp2_with fail
 all_goals go_ret
 all_goals exact⟨rfl,p,q,_,_,Lib.hid HB2.out.S,(by first | exact HCAP | exact Lib.hid rfl)⟩
end
end
section
open Go.RowKit
attribute [local go_sem] Oper.semAt_some
theorem do_any {W w:World} {p:HP} {g gt:Nat} {q:HP} {k kt kb:Nat} {h:HM} {t:TM} (S:DoS W w p g gt q k kt kb h t h t) (d:Hd5) (f:d.Fit):
 Calls Tryz.prog 49 #[.pointer (some ⟨gt,0,none⟩),.pointer (some ⟨g,0,none⟩),.pointer (some ⟨kt,0,none⟩),.agg #[.int .i64 d.k,.int .u32 (d.o:Int),.int .u64 (d.id:Int),.int .i64 d.n,.int .i64 d.i]] w (DoP W g gt k kt kb t.cap w):=by
 obtain⟨fk1,fk2,fo,fid,fn1,fn2,fi1,fi2⟩:=f
 by_cases h0:d.k.tmod 10=0
 ·exact do0_any S d.k d.n d.i d.o d.id fo fid fn1 fn2 fi1 fi2 h0
 by_cases h1:d.k.tmod 10=1
 ·exact do1_any S d.k d.n d.i d.o d.id fo fid fn1 fn2 fi1 fi2 h1
 by_cases h2:d.k.tmod 10=2
 ·exact do2_any S d.k d.n d.i d.o d.id fo fid fn1 fn2 fi1 fi2 h2
 by_cases h3:d.k.tmod 10=3
 ·exact do3_any S d.k d.n d.i d.o d.id fo fid fn1 fn2 fi1 fi2 h3
 by_cases h4:d.k.tmod 10=4
 ·exact do4_any S d.k d.n d.i d.o d.id fo fid fn1 fn2 fi1 fi2 h4
 by_cases h5:d.k.tmod 10=5
 ·exact do5_any S d.k d.n d.i d.o d.id fo fid fn1 fn2 fi1 fi2 h5
 by_cases h6:d.k.tmod 10=6
 ·exact do6_any S d.k d.n d.i d.o d.id fo fid fn1 fn2 fi1 fi2 h6
 by_cases h7:d.k.tmod 10=7
 ·exact do7_any S d.k d.n d.i d.o d.id fo fid fn1 fn2 fi1 fi2 h7
 by_cases h8:d.k.tmod 10=8
 ·by_cases h9:d.i.tmod 20=0
  ·exact do8_any S d.k d.n d.i d.o d.id fo fid fn1 fn2 fi1 fi2 h8 h9
  ·exact do8n_any S d.k d.n d.i d.o d.id fo fid fn1 fn2 fi1 fi2 h8 h9
 by_cases h9:d.i.tmod 3=0
 ·exact do9_any S d.k d.n d.i d.o d.id fo fid fn1 fn2 fi1 fi2 h0 h1 h2 h3 h4 h5 h6 h7 h8 h9
 ·exact doSR_any S d.k d.n d.i d.o d.id fo fid fn1 fn2 fi1 fi2 h0 h1 h2 h3 h4 h5 h6 h7 h8 h9
theorem DoS.made {W w w1 w2:World} {p p' q q':HP} {g gt k kt kb:Nat} {a h:HM} {t:TM} (T2:Two W w p g q k a a) (T:HT W w1 p' g gt h t) (s:Step p p' w w1) (hgt:w.heap.size≤gt)
 (R:RAt w2 q' h) (hT:Blk w2 kt 118 (dtabC k kb t)) (hR:Blk w2 kb 209 (dsC (t.slots.take t.cap)).toArray) (s2:Step q q' w1 w2) (hkt:w1.heap.size≤kt) (hkb:w1.heap.size≤kb):
 DoS W w2 p' g gt q' k kt kb h t h t:=by
 have hq:∀ {j},q.has j→j<w.heap.size:=fun {j} hj=>T2.doc.lt hj
 have hp1:∀ {j},p'.has j→j<w1.heap.size:=fun {j} hj=>T.live.at_.lt hj
 have hg1:=T.tab.lt
 have hpq:∀ {j},p'.has j→¬ q.has j:=fun {j} hj hj2=>by
  rcases s.rows j hj with h1 | h1
  ·exact T2.apart j hj2 h1
  ·have:=hq hj2; omega
 have hgq:¬ q.has gt:=fun hj=>by have:=hq hj; omega
 have hb:Below W.heap.size W w2:=s2.below T.live.below fun j hj=>T2.qnew j hj
 have hW1:=T.live.below.size
 refine⟨T.same (fun j hj=>?_) hb,⟨R,s2.g.trans T2.hk,hT,hR,T.ok,T.live.good,fun j hj=>?_,hb⟩,fun j hj=>?_⟩
 ·rcases hj with hj | rfl
  ·exact s2.block j (hp1 hj) (hpq hj)
  ·exact s2.block _ hg1 hgq
 ·rcases hj with hj | rfl | rfl
  ·rcases s2.rows j hj with h1 | h1
   ·exact T2.qnew j h1
   ·omega
  ·omega
  ·omega
 ·have key:w1.heap.size≤j→¬ p'.has j∧j≠gt:=fun hj=>⟨fun hh=>by have:=hp1 hh; omega,fun e=>by omega⟩
  rcases hj with hj | rfl | rfl
  ·rcases s2.rows j hj with h1 | h1
   ·exact ⟨fun hh=>hpq hh h1,fun e=>hgq (e ▸ h1)⟩
   ·exact key h1
  ·exact key hkt
  ·exact key hkb
end
section
open Go.RowKit Go.BigFrame
attribute [local go_sem] Oper.semAt_some
section
variable {W w:World} {p:HP} {g gt:Nat} {q:HP} {k kt kb:Nat} {h:HM} {t:TM}
theorem nwE_lt (h:HM) (n:Int) (fi:Nat):nwE h n fi<4294967296:=by
 have:=h.AllocE_lt (h.roots.getD 20 0) 1 n
 unfold nwE
 split <;> (try split) <;> omega
theorem DoS.plive (S:DoS W w p g gt q k kt kb h t h t):Calls Tryz.prog 37 #[.pointer (some ⟨gt,0,none⟩)] w fun e w'=>∃ A c,e = .returned (.slice A (livL h t).length c)∧Hid (w'.ownsRow w.heap.size 99 3 (.slice A (livL h t).length c) (livL h t).length (hdsC (livL h t)))∧Hid (DoS W w' p g gt q k kt kb h t h t):=
 (tlive_any S.T).mono fun e w' ⟨v,he,ho,hb⟩=>by
  obtain⟨A,c,hv⟩:=own_val ho
  subst hv
  exact⟨A,c,he,Lib.hid ho,Lib.hid (S.after hb)⟩
theorem DoS.dlive (S:DoS W w p g gt q k kt kb h t h t) {B c0:Nat} {A0:Option Addr} (HO:Hid (w.ownsRow B 99 3 (.slice A0 (livL h t).length c0) (livL h t).length (hdsC (livL h t)))):Calls Tryz.prog 50 #[.pointer (some ⟨kt,0,none⟩)] w fun e w'=>∃ A c,e = .returned (.slice A (livL h t).length c)∧Hid (DoS W w' p g gt q k kt kb h t h t)∧Hid (Calls Tryz.prog 39 #[.slice A0 (livL h t).length c0,.slice A (livL h t).length c] w' (Told (.bool true) w')):=
 (dlive_any S.D).mono fun e w' ⟨v,he,ho,hb⟩=>by
  obtain⟨A,c,hv,hr,hn⟩:=own_readsH ho
  subst hv
  obtain⟨A1,c1,hv1,hr1,hn1⟩:=own_readsH (own_below HO.out hb)
  injection hv1 with e1 e2 e3
  subst e1 e3
  have hs:=sameHandles_any A0 A _ _ c0 c _ _ w' hn1 hn hr1 hr
  rw [decide_eq_true rfl] at hs
  exact⟨A,c,he,Lib.hid (S.after hb),Lib.hid hs⟩
end
set_option maxRecDepth 100000 in
set_option maxHeartbeats 16000000 in
theorem doesL_any (W:World) (E:Env W) (sz ob cp:Int) (fi:Nat) (A:Option Addr) (nd c:Nat) (ds:List Hd5) (hfi:fi<18446744073709551616) (hnd:nd≤9223372036854775807) (hds:Hds5 W W.heap.size A nd ds):
 Calls Tryz.prog 10 #[.agg #[.int .i64 sz,.int .i64 ob,.int .i64 cp,.int .u64 (fi:Int),.slice A nd c]] W (Told (.bool true) W):=by
 have HAW:=Lib.hid (fun (w:World) (E:Env w)=>hawake_any w E)
 have HNU:=Lib.hid (fun E hE w'=>hnum_any E hE w')
 have HDS:=Lib.hid hds
 have hb1:=(Below.refl W.heap.size W).alloc (Nat.le_refl _) (.cells #[.int .i64 sz,.int .i64 ob,.int .i64 cp,.int .u64 (fi:Int),.slice A nd c] 50)
 have HB1:=Lib.hid hb1
 have BS0:=Blk.new W 50 #[.int .i64 sz,.int .i64 ob,.int .i64 cp,.int .u64 (fi:Int),.slice A nd c]
 have HBG:=Lib.hid (heaps_any _ (E.below hb1) sz ob cp fi A nd c)
 have HE:=Lib.hid (E.below hb1)
 obtain⟨x0,x1,x2,x3,x4⟩:=BS0.cells5
 have BS:=Lib.hid BS0
 clear hds hb1 BS0 E
 go_enter Tryz.func10,Tryz.ntmps10
 go_wp2_with fail
 clear x0 x1 x2 x3 x4
 generalize hW2:W.alloc (.cells #[.int .i64 sz,.int .i64 ob,.int .i64 cp,.int .u64 (fi:Int),.slice A nd c] 50)=W2 at *
 clear hW2
 refine HBG.out.mono ?_
 rintro e w1 (⟨hz,rfl,hb1⟩ | ⟨hz1,hz2,p,q,g,k,rfl,T2,hb1⟩)
 ·have HA1:=Lib.hid (HAW.out w1 (HE.out.below hb1))
  have HB2:=Lib.hid (below_top HB1.out hb1)
  clear hb1 HBG hz
  go_wp2_with fail
  refine HA1.out.mono ?_
  rintro e w2 ⟨rfl,hb2⟩
  have HB3:=Lib.hid (below_top HB2.out hb2)
  clear hb2
  go_wp2_with fail
  go_ret
  exact⟨rfl,HB3.out⟩
 ·have HT2:=Lib.hid T2
  have HNP:=Lib.hid (tnew_any T2.live cp fi hfi)
  have BS1:=Lib.hid (BS.out.below hb1 BS.out.lt)
  have HSL:=Lib.hid BS.out.lt
  obtain⟨x0,x1,x2,x3,x4⟩:=BS1.out.cells5
  clear T2 HBG hz1 hz2 hb1
  generalize hpsH sz.toNat (obN ob)=a at *
  have HEL:=Lib.hid (nwE_lt a cp fi)
  go_wp2_with fail
  refine HNP.out.mono ?_
  clear x0 x1 x2 x3 x4
  rintro e w2 (⟨he,p',rfl,L2,s2⟩ | ⟨he,p',gt,rfl,T3,s2,hgt⟩)
  ·have T3:=HT2.out.left L2 s2
   have HND:=Lib.hid (rtnew_any T3.doc T3.hk L2.fit cp fi hfi)
   have BS2:=Lib.hid (BS.out.below L2.below BS.out.lt)
   obtain⟨x0,x1,x2,x3,x4⟩:=BS2.out.cells5
   have HT3:=Lib.hid T3
   have HER:=Lib.hid he
   clear L2 s2 T3 HNP he
   go_wp2_with fail
   refine HND.out.mono ?_
   clear x0 x1 x2 x3 x4
   rintro e w3 (⟨-,q',rfl,R3,s3⟩ | ⟨h0,_⟩)
   ·have T4:=HT3.out.right R3 s3
    have hk:=T4.hk
    have HLK:=Lib.hid (like_any T4.live T4.doc)
    rw [hk] at HLK
    have HB4:=Lib.hid (HB1.out.trans (T4.live.below.mono HB1.out.size))
    have hne:((nwE a cp fi:Int) != 0)=true:=by rw [bne_iff_ne]; have:=HER.out; omega
    have hEL:=HEL.out
    clear T4 R3 s3 HND hk HER
    generalize nwE a cp fi=E at *
    go_wp2_with fail
    refine (HNU.out _ hEL _).mono ?_
    rintro e w4 ⟨rfl,rfl⟩
    go_wp2_with fail
    refine HLK.out.mono ?_
    rintro e w5 ⟨rfl,hb5⟩
    have HB5:=Lib.hid (below_top HB4.out hb5)
    go_wp2_with fail
    go_ret
    exact⟨rfl,HB5.out⟩
   ·exact absurd h0 HER.out
  ·have HND:=Lib.hid (rtnew_any (HT2.out.doc.same fun j hj=>s2.block j (HT2.out.doc.lt hj) (HT2.out.apart j hj)) HT2.out.hk HT2.out.live.fit cp fi hfi)
   have BS2:=Lib.hid (BS.out.below T3.live.below BS.out.lt)
   obtain⟨x0,x1,x2,x3,x4⟩:=BS2.out.cells5
   have HT3:=Lib.hid (And.intro T3 (And.intro s2 hgt))
   have HER:=Lib.hid he
   have hcp:(TM.fresh cp.toNat fi).cap=cp.toNat:=rfl
   have HC1:=Lib.hid (show ((TM.fresh cp.toNat fi).cap:Int)=cp by have:=T3.ok.lo; rw [hcp] at this ⊢; omega)
   clear T3 s2 hgt HNP he hcp
   go_wp2_with fail
   refine HND.out.mono ?_
   clear x0 x1 x2 x3 x4
   rintro e w3 (⟨h0,_⟩ | ⟨-,q',kt,kb,rfl,R3,hT3,hR3,s3,hkt,hkb⟩)
   ·exact absurd HER.out h0
   ·have HS3:=Lib.hid (DoS.made HT2.out HT3.out.1 HT3.out.2.1 HT3.out.2.2 R3 hT3 hR3 s3 hkt hkb)
    clear R3 hT3 hR3 s3 hkt hkb HND HT3 HER HT2 HEL
    generalize nwH a cp=h0 at *
    generalize TM.fresh cp.toNat fi=t0 at *
    go_wp2_with fail
    refine (HNU.out 0 (by decide) _).mono ?_
    rintro e w4 ⟨rfl,rfl⟩
    go_wp2_with fail
    have HSB:=Lib.hid (fun (w':World) (hb:Below W2.heap.size W2 w')=>(BS.out.below hb BS.out.lt).cells5)
    go_loopw [10] (fun iv wr=>∃ (j:Nat) (p q:HP) (h:HM) (t:TM),iv = .int .i64 (j:Int)∧j≤nd∧Hid (DoS W2 wr p g gt q k kt kb h t h t)∧Hid ((t.cap:Int)=cp)) (fun iv _=>nd-(intOf iv).toNat)
    case atStart=>exact⟨0,p',q',h0,t0,rfl,Nat.zero_le _,HS3,HC1⟩
    case round=>
     clear HS3 HC1
     obtain⟨j,p,q,h,t,rfl,hj,HS,HCj⟩:=hrel
     obtain⟨x0,x1,x2,x3,x4⟩:=HSB.out wr HS.out.T.live.below
     by_cases hlt:j<nd
     ·obtain⟨d,ad,-,fd,hA,hbl,y0,y1,y2,y3,y4⟩:=(HDS.out.below (HB1.out.trans (HS.out.T.live.below.mono HB1.out.size))).at_ hlt
      subst hA
      rw [← add_cell ad (j*5) 0] at y1
      rw [← add_cell ad (j*5) 1] at y2
      rw [← add_cell ad (j*5) 2] at y3
      rw [← add_cell ad (j*5) 3] at y4
      have HDO:=Lib.hid (fun (w':World) (hb:Below wr.heap.size wr w')=>do_any (HS.out.after hb) d fd)
      have hb0:=Below.refl wr.heap.size wr
      have HNW:=Lib.hid (fun (w':World) (p q:HP) (h:HM) (t:TM) (S':DoS W2 w' p g gt q k kt kb h t h t)=>tnow_any S'.T)
      have HNX:=Lib.hid (fun (w':World) (p q:HP) (h:HM) (t:TM) (S':DoS W2 w' p g gt q k kt kb h t h t)=>tnext_any S'.T)
      have HLV:=Lib.hid (fun (w':World) (p q:HP) (h:HM) (t:TM) (S':DoS W2 w' p g gt q k kt kb h t h t)=>S'.plive)
      have HDL:=Lib.hid (fun (w':World) (p q:HP) (h:HM) (t:TM) (S':DoS W2 w' p g gt q k kt kb h t h t) (B c0:Nat) (A0:Option Addr) HO=>S'.dlive (B:=B) (c0:=c0) (A0:=A0) HO)
      clear fd hbl
      go_upto_region 13 with fail
      go_cut [96] (fun v wx=>v = .bool false∧∃ p q h t,Hid (DoS W2 wx p g gt q k kt kb h t h t)∧Hid ((t.cap:Int)=cp))
      case first=>
       go_region_with (first
        | (go_at_call 49; (with_reducible refine (HDO.out _ (by first | with_reducible exact hb0 | with_reducible exact Below.drew hb0)).mono ?_); rintro e w1 ⟨rfl,p1,q1,h1,t1,HS1,HC1⟩; have z2:=HS1.out.D.c2; have z3:=HS1.out.D.c3; have z0:=HS1.out.D.c0)
        | (go_at_call 34; (with_reducible refine (HNW.out _ _ _ _ _ HS1.out).mono ?_); rintro e w3 ⟨rfl,rfl⟩)
        | (go_at_call 36; (with_reducible refine (HNX.out _ _ _ _ _ HS1.out).mono ?_); rintro e w3 ⟨rfl,rfl⟩)
        | (go_at_call 37; (with_reducible refine (HLV.out _ _ _ _ _ HS1.out).mono ?_); rintro e w3 ⟨A1,e1,rfl,HO3,HS3⟩)
        | (go_at_call 50; (with_reducible refine (HDL.out _ _ _ _ _ HS3.out _ _ _ HO3).mono ?_); rintro e w4 ⟨A2,e2,rfl,HS4,HSH⟩)
        | (go_at_call 39; (with_reducible refine HSH.out.mono ?_); rintro e w5 ⟨rfl,hb5⟩))
       all_goals go_wp2_with fail
       all_goals go_meet
       all_goals exact⟨rfl,p1,q1,h1,t1,Lib.hid (HS4.out.after hb5),Lib.hid (by rw [HC1.out]; exact HCj.out)⟩
      case rest=>
       obtain⟨rfl,p1,q1,h1,t1,HS1,HC1⟩:=hcut
       clear HDO HNW HNX HLV HDL HS hb0 y0 y1 y2 y3 y4 x0 x1 x2 x3 x4
       go_wp2_with fail
       go_roundw
       case rel=>exact⟨j+1,p1,q1,h1,t1,by go_num,by omega,HS1,HC1⟩
       case measure=>simp [intOf]; omega
     ·obtain rfl:j=nd:=by omega
      have HLK:=Lib.hid (fun (w':World) (hb:Below wr.heap.size wr w')=>by
       have hh:=like_any (HS.out.after hb).T.live (HS.out.after hb).D.doc
       rw [HS.out.D.hk] at hh
       exact hh)
      have HCA:=Lib.hid (fun (w':World) (hb:Below wr.heap.size wr w')=>tcap_any (HS.out.after hb).T)
      have hb0:=Below.refl wr.heap.size wr
      have HX2:=Lib.hid (fun (w':World) (hb:Below wr.heap.size wr w')=>(HSB.out w' (below_top HS.out.T.live.below hb)).2.2.1)
      have hce:((t.cap:Int) == cp)=true:=by rw [HCj.out]; exact beq_self_eq_true cp
      have HBF:=Lib.hid (HB1.out.trans (HS.out.T.live.below.mono HB1.out.size))
      clear HCj
      go_upto_region 15 with fail
      go_region_held3 (fun w'=>w'.cell? ⟨W.heap.size,2,none⟩=some (.int .i64 cp))
       (first | with_reducible exact HX2.out _ (Below.drew hb0) | with_reducible exact HX2.out _ hb5 | with_reducible exact HX2.out _ hb0)
       (first
         | (go_at_call 15; (with_reducible refine (HLK.out _ (by first | with_reducible exact Below.drew hb0 | with_reducible exact hb0)).mono ?_); rintro e w5 ⟨rfl,hb6⟩; have hb5:=below_top (below_drew (Below.refl wr.heap.size wr)) hb6)
         | (go_at_call 41; (with_reducible refine (HCA.out _ hb5).mono ?_); rintro e w6 ⟨rfl,rfl⟩))
      all_goals go_wp2_with fail
      all_goals go_ret
      all_goals exact⟨rfl,below_top HBF.out hb5⟩
end
end Go.Proofs.YtlkahgagmfhdaaaGreatDoor
