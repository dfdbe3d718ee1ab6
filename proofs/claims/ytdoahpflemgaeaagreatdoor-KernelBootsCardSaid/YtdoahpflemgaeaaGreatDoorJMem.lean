import Derived.Test.YtdoahpflemgaeaaGreatDoorJBase
import Derived.Test.YtdoahpflemgaeaaGreatDoorProg
import Derived.Laws.StructEq
import Derived.Maps.AppendAt
import Derived.Deep.AppendLies
import Derived.RegionTactic
import Derived.OwnWalk
set_option linter.unusedVariables false
set_option linter.unusedSectionVars false
namespace Go.Proofs.YtdoahpflemgaeaaGreatDoor
section
open Go.RowKit
def Blk (w:World) (g:Nat) (t:TypeId) (cs:Array Value):Prop:=w.heap[g]? = some (.cells cs t (0,0))
section
variable {w w':World} {g:Nat} {t:TypeId} {cs:Array Value}
theorem Blk.lt (h:Blk w g t cs):g<w.heap.size:=by
 rcases Nat.lt_or_ge g w.heap.size with hlt | hge
 ·exact hlt
 ·unfold Blk at h; rw [Array.getElem?_eq_none hge] at h; cases h
theorem Blk.cell (h:Blk w g t cs) (i:Nat):w.cell? ⟨g,i,none⟩=cs[i]? :=cell_of_row w g i cs t (0,0) h
theorem Blk.frozen (h:Blk w g t cs) (i:Nat):w.frozen? ⟨g,i,none⟩=false:=by
 unfold Blk at h
 simp [World.frozen?,h]
theorem Blk.new (w:World) (t:TypeId) (cs:Array Value):Blk (w.alloc (.cells cs t)) w.heap.size t cs:=heap_alloc_new w _
theorem Blk.drew (h:Blk w g t cs):Blk w.drew g t cs:=h
theorem Blk.drewN (h:Blk w g t cs) (n:Nat):Blk (w.drewN n) g t cs:=h
theorem Blk.alloc (h:Blk w g t cs) (o:Obj):Blk (w.alloc o) g t cs:=(Below.heap_alloc w o g h.lt).trans h
theorem Blk.set_ (h:Blk w g t cs) (i:Nat) (u:Value):Blk (w.setCell ⟨g,i,none⟩ u) g t (cs.setIfInBounds i u):=by
 unfold Blk at h ⊢
 simp [World.setCell,Array.getElem?_modify,h]
theorem Blk.far (h:Blk w g t cs) {p:Addr} (hp:g≠p.block) (u:Value):Blk (w.setCell p u) g t cs:=(Below.heap_setCell w p u g hp).trans h
theorem Blk.same (h:Blk w g t cs) (hs:w'.heap[g]? = w.heap[g]?):Blk w' g t cs:=hs.trans h
theorem Blk.below {B:Nat} (h:Blk w g t cs) (hb:Below B w w') (hg:g<B):Blk w' g t cs:=(hb.block g hg).trans h
theorem Blk.ne_ {g':Nat} {t':TypeId} {cs':Array Value} (h:Blk w g t cs) (h':Blk w g' t' cs') (hne:t≠t'):g≠g':=by
 rintro rfl
 unfold Blk at h h'
 rw [h] at h'
 injection h' with h'
 injection h' with _ ht
 exact hne ht
end
section
variable {w w':World} {g:Nat} {t:TypeId}
theorem Blk.fz {cs:Array Value} (h:Blk w g t cs):∀ i,w.frozen? ⟨g,i,none⟩=false:=fun i=>h.frozen i
theorem Blk.setAll5 {a b c d e:Value} (h:Blk w g t #[a,b,c,d,e]) (x0 x1 x2 x3 x4:Value):
 Blk (((((w.setCell ⟨g,0,none⟩ x0).setCell ⟨g,1,none⟩ x1).setCell ⟨g,2,none⟩ x2).setCell ⟨g,3,none⟩ x3).setCell ⟨g,4,none⟩ x4) g t #[x0,x1,x2,x3,x4]:=
 ((((h.set_ 0 x0).set_ 1 x1).set_ 2 x2).set_ 3 x3).set_ 4 x4
theorem Blk.cells3 {a b c:Value} (h:Blk w g t #[a,b,c]):w.cell? ⟨g,0,none⟩=some a∧w.cell? ⟨g,1,none⟩=some b∧w.cell? ⟨g,2,none⟩=some c:=⟨h.cell 0,h.cell 1,h.cell 2⟩
theorem Blk.cells5 {a b c d e:Value} (h:Blk w g t #[a,b,c,d,e]):
 w.cell? ⟨g,0,none⟩=some a∧w.cell? ⟨g,1,none⟩=some b∧w.cell? ⟨g,2,none⟩=some c∧w.cell? ⟨g,3,none⟩=some d∧w.cell? ⟨g,4,none⟩=some e:=⟨h.cell 0,h.cell 1,h.cell 2,h.cell 3,h.cell 4⟩
end
def Row (w:World) (g:Nat) (e:TypeId) (c:Nat) (xs:List Value):Prop:=
 ∃ cur,Blk w g e cur∧xs.length≤c∧c≤maxLen∧cur.size=c∧cur.toList.take xs.length=xs
section
variable {w w':World} {g c:Nat} {e:TypeId} {xs:List Value}
theorem Row.lt (h:Row w g e c xs):g<w.heap.size:=by obtain⟨_,h,_⟩:=h; exact h.lt
theorem Row.same (h:Row w g e c xs) (hs:w'.heap[g]? = w.heap[g]?):Row w' g e c xs:=by
 obtain⟨cur,h,r⟩:=h
 exact⟨cur,h.same hs,r⟩
theorem Row.owns (h:Row w g e c xs):w.ownsRow 0 e 1 (.slice (some ⟨g,0,none⟩) xs.length c) xs.length xs:=by
 obtain⟨cur,hb,hl,hm,hc,hx⟩:=h
 exact⟨by simp,.inr ⟨g,c,cur,rfl,Nat.zero_le _,hb,hl,hm,by simpa using hc,by simpa using hx⟩⟩
theorem Row.of_owns {base n:Nat} (h:w.ownsRow base e 1 (.slice (some ⟨g,0,none⟩) n c) n xs):Row w g e c xs∧xs.length=n∧base≤g:=by
 obtain⟨h1,h2⟩:=h
 simp only [Nat.mul_one] at h1
 subst h1
 rcases h2 with ⟨h2,_⟩ | ⟨g',cap,cur,hv,hg,hh,h3,h4,h5,h6⟩
 ·cases h2
 ·injection hv with hv1 hv2 hv3
  injection hv1 with hv1
  injection hv1 with hv1
  subst hv1 hv3
  exact⟨⟨cur,hh,h3,h4,by simpa using h5,by simpa using h6⟩,rfl,hg⟩
theorem Row.cell (h:Row w g e c xs) {i:Nat} {u:Value} (hi:xs[i]? = some u):w.cell? ⟨g,i,none⟩=some u:=by
 obtain⟨cur,hb,hl,hm,hc,hx⟩:=h
 rw [hb.cell]
 rw [← hx,List.getElem?_take] at hi
 split at hi
 ·simpa using hi
 ·cases hi
theorem Row.frozen (h:Row w g e c xs) (i:Nat):w.frozen? ⟨g,i,none⟩=false:=by obtain⟨cur,hb,_⟩:=h; exact hb.frozen i
theorem Row.reads (h:Row w g e c xs) {B:Nat} (hB:g<B):Reads w B 1 (some ⟨g,0,none⟩) xs.length xs:=
 ⟨by simp,fun _=>⟨_,rfl,hB,fun j u hu=>by rw [WideShapes.add_plain,Nat.zero_add]; exact h.cell hu⟩⟩
theorem Row.set (h:Row w g e c xs) (i:Nat) (u:Value):Row (w.setCell ⟨g,i,none⟩ u) g e c (xs.set i u):=by
 obtain⟨cur,hb,hl,hm,hc,hx⟩:=h
 refine⟨_,hb.set_ i u,by simpa using hl,hm,by simpa using hc,?_⟩
 rw [Array.toList_setIfInBounds,List.length_set,List.take_set,hx]
theorem Row.far (h:Row w g e c xs) {p:Addr} (hp:g≠p.block) (u:Value):Row (w.setCell p u) g e c xs:=h.same (Below.heap_setCell w p u g hp)
theorem Row.alloc (h:Row w g e c xs) (o:Obj):Row (w.alloc o) g e c xs:=h.same (Below.heap_alloc w o g h.lt)
theorem Row.below (h:Row w g e c xs) (hb:Below w.heap.size w w'):Row w' g e c xs:=h.same (hb.block g h.lt)
theorem Row.ne_ {g':Nat} {t':TypeId} {c':Nat} {ys:List Value} (h:Row w g e c xs) (h':Row w g' t' c' ys) (hne:e≠t'):g≠g':=by
 obtain⟨_,h,_⟩:=h
 obtain⟨_,h',_⟩:=h'
 exact h.ne_ h' hne
theorem Row.ne_blk {g':Nat} {t':TypeId} {cs:Array Value} (h:Row w g e c xs) (h':Blk w g' t' cs) (hne:e≠t'):g≠g':=by
 obtain⟨_,h,_⟩:=h
 exact h.ne_ h' hne
end
theorem below_drewN {B:Nat} {a w:World} (h:Below B a w) (n:Nat):Below B a (w.drewN n):=⟨h.os,h.tape,h.output,h.size,h.block⟩
theorem below_top {w w1 w2:World} (h:Below w.heap.size w w1) (h2:Below w1.heap.size w1 w2):Below w.heap.size w w2:=h.trans (h2.mono h.size)
end
section
open Go.RowKit
structure HM where
 size:Nat
 words:List Nat
 starts:List Bool
 roots:List Nat
 last:Nat
def u32s (l:List Nat):List Value:=l.map fun x:Nat=> .int .u32 (x:Int)
def u8c (l:List Nat):List Value:=l.map fun x:Nat=> .int .u8 (x:Int)
def bools (l:List Bool):List Value:=l.map Value.bool
def begins (l:List Bool):List Value:=l.map fun b=> .int .u8 (if b then 1 else 0)
theorem u32s_len (l:List Nat):(u32s l).length=l.length:=by simp [u32s]
theorem bools_len (l:List Bool):(bools l).length=l.length:=by simp [bools]
theorem begins_len (l:List Bool):(begins l).length=l.length:=by simp [begins]
theorem u32s_get {l:List Nat} {i:Nat} (h:i<l.length):(u32s l)[i]? = some (.int .u32 ((l.getD i 0:Nat):Int)):=by
 simp [u32s,List.getD,h]
theorem bools_get {l:List Bool} {i:Nat} (h:i<l.length):(bools l)[i]? = some (.bool (l.getD i false)):=by
 simp [bools,List.getD,h]
theorem begins_get {l:List Bool} {i:Nat} (h:i<l.length):(begins l)[i]? = some (.int .u8 (if l.getD i false then 1 else 0)):=by
 simp [begins,List.getD,h]
structure HP where
 g:Nat
 gw:Nat
 cw:Nat
 gs:Nat
 cs:Nat
 gr:Nat
 cr:Nat
def sl (g n c:Nat):Value:=.slice (some ⟨g,0,none⟩) n c
def HAt (w:World) (p:HP) (h:HM):Prop:=
 Blk w p.g 78 #[.slice (some ⟨p.gw,0,none⟩) h.words.length p.cw,.slice (some ⟨p.gs,0,none⟩) h.starts.length p.cs,.slice (some ⟨p.gr,0,none⟩) h.roots.length p.cr,.int .i64 h.size,.int .u32 h.last]∧
 Row w p.gw 37 p.cw (u32s h.words)∧Row w p.gs 4 p.cs (bools h.starts)∧Row w p.gr 38 p.cr (u32s h.roots)
def RAt (w:World) (p:HP) (h:HM):Prop:=
 Blk w p.g 58 #[.int .i64 h.size,.slice (some ⟨p.gw,0,none⟩) h.words.length p.cw,.slice (some ⟨p.gr,0,none⟩) h.roots.length p.cr,.int .u32 h.last,.slice (some ⟨p.gs,0,none⟩) h.starts.length p.cs]∧
 Row w p.gw 37 p.cw (u32s h.words)∧Row w p.gs 5 p.cs (begins h.starts)∧Row w p.gr 38 p.cr (u32s h.roots)
def HP.has (p:HP) (k:Nat):Prop:=k=p.g∨k=p.gw∨k=p.gs∨k=p.gr
section
variable {w w':World} {p:HP} {h:HM}
theorem HAt.lt (H:HAt w p h) {k:Nat} (hk:p.has k):k<w.heap.size:=by
 obtain⟨hb,hw,hs,hr⟩:=H
 rcases hk with rfl | rfl | rfl | rfl
 ·exact hb.lt
 ·exact hw.lt
 ·exact hs.lt
 ·exact hr.lt
theorem RAt.lt (H:RAt w p h) {k:Nat} (hk:p.has k):k<w.heap.size:=by
 obtain⟨hb,hw,hs,hr⟩:=H
 rcases hk with rfl | rfl | rfl | rfl
 ·exact hb.lt
 ·exact hw.lt
 ·exact hs.lt
 ·exact hr.lt
theorem HAt.same (H:HAt w p h) (hs:∀ k,p.has k→w'.heap[k]? = w.heap[k]?):HAt w' p h:=by
 obtain⟨hb,hw,hs',hr⟩:=H
 exact⟨hb.same (hs _ (.inl rfl)),hw.same (hs _ (.inr (.inl rfl))),hs'.same (hs _ (.inr (.inr (.inl rfl)))),hr.same (hs _ (.inr (.inr (.inr rfl))))⟩
theorem RAt.same (H:RAt w p h) (hs:∀ k,p.has k→w'.heap[k]? = w.heap[k]?):RAt w' p h:=by
 obtain⟨hb,hw,hs',hr⟩:=H
 exact⟨hb.same (hs _ (.inl rfl)),hw.same (hs _ (.inr (.inl rfl))),hs'.same (hs _ (.inr (.inr (.inl rfl)))),hr.same (hs _ (.inr (.inr (.inr rfl))))⟩
theorem HAt.below (H:HAt w p h) (hb:Below w.heap.size w w'):HAt w' p h:=H.same fun k hk=>hb.block k (H.lt hk)
theorem RAt.below (H:RAt w p h) (hb:Below w.heap.size w w'):RAt w' p h:=H.same fun k hk=>hb.block k (H.lt hk)
end
structure Step (p p':HP) (w w':World):Prop where
 os:w'.os=w.os
 tape:w'.tape=w.tape
 output:w'.output=w.output
 size:w.heap.size≤w'.heap.size
 block:∀ k,k<w.heap.size→¬ p.has k→w'.heap[k]? = w.heap[k]?
 g:p'.g=p.g
 rows:∀ k,p'.has k→p.has k∨w.heap.size≤k
theorem Step.of_below {p:HP} {w w':World} (hb:Below w.heap.size w w'):Step p p w w':=
 ⟨hb.os,hb.tape,hb.output,hb.size,fun k hk _=>hb.block k hk,rfl,fun _ hk=> .inl hk⟩
theorem Step.refl (p:HP) (w:World):Step p p w w:=.of_below (Below.refl _ _)
theorem Step.trans {p p' p'':HP} {w w' w'':World} (a:Step p p' w w') (b:Step p' p'' w' w''):Step p p'' w w'':=by
 refine⟨b.os.trans a.os,b.tape.trans a.tape,b.output.trans a.output,Nat.le_trans a.size b.size,fun k hk hn=>?_,b.g.trans a.g,fun k hk=>?_⟩
 ·rw [b.block k (by have:=a.size; omega) (fun hp=>?_),a.block k hk hn]
  rcases a.rows k hp with h | h
  ·exact hn h
  ·omega
 ·rcases b.rows k hk with h | h
  ·exact a.rows k h
  ·exact .inr (by have:=a.size; omega)
theorem Step.below {p p':HP} {W w w':World} (h:Below W.heap.size W w) (a:Step p p' w w') (hp:∀ k,p.has k→W.heap.size≤k):Below W.heap.size W w':=
 ⟨a.os.trans h.os,a.tape.trans h.tape,a.output.trans h.output,Nat.le_trans h.size a.size,fun k hk=>(a.block k (by have:=h.size; omega) (fun hh=>by have:=hp k hh; omega)).trans (h.block k hk)⟩
structure HM.Fit (h:HM):Prop where
 lo:64≤h.size
 hi:h.size≤1048576
 one:1≤h.words.length
 room:h.words.length≤h.size
 marks:h.starts.length=h.words.length
 roots:h.roots.length=64
 w32:∀ x∈h.words,x<4294967296
 r32:∀ x∈h.roots,x<4294967296
 l32:h.last<4294967296
def ptr (g:Nat):Value:=.pointer (some ⟨g,0,none⟩)
section
variable {w:World} {p:HP} {h:HM}
theorem HAt.c0 (H:HAt w p h):w.cell? ⟨p.g,0,none⟩=some (.slice (some ⟨p.gw,0,none⟩) h.words.length p.cw):=H.1.cell 0
theorem HAt.c1 (H:HAt w p h):w.cell? ⟨p.g,1,none⟩=some (.slice (some ⟨p.gs,0,none⟩) h.starts.length p.cs):=H.1.cell 1
theorem HAt.c2 (H:HAt w p h):w.cell? ⟨p.g,2,none⟩=some (.slice (some ⟨p.gr,0,none⟩) h.roots.length p.cr):=H.1.cell 2
theorem HAt.c3 (H:HAt w p h):w.cell? ⟨p.g,3,none⟩=some (.int .i64 h.size):=H.1.cell 3
theorem HAt.c4 (H:HAt w p h):w.cell? ⟨p.g,4,none⟩=some (.int .u32 h.last):=H.1.cell 4
theorem HAt.word (H:HAt w p h) {i:Nat} (hi:i<h.words.length):w.cell? ⟨p.gw,i,none⟩=some (.int .u32 ((h.words.getD i 0:Nat):Int)):=H.2.1.cell (u32s_get hi)
theorem HAt.mark (H:HAt w p h) {i:Nat} (hi:i<h.starts.length):w.cell? ⟨p.gs,i,none⟩=some (.bool (h.starts.getD i false)):=H.2.2.1.cell (bools_get hi)
theorem HAt.root (H:HAt w p h) {i:Nat} (hi:i<h.roots.length):w.cell? ⟨p.gr,i,none⟩=some (.int .u32 ((h.roots.getD i 0:Nat):Int)):=H.2.2.2.cell (u32s_get hi)
theorem RAt.c0 (H:RAt w p h):w.cell? ⟨p.g,0,none⟩=some (.int .i64 h.size):=H.1.cell 0
theorem RAt.c1 (H:RAt w p h):w.cell? ⟨p.g,1,none⟩=some (.slice (some ⟨p.gw,0,none⟩) h.words.length p.cw):=H.1.cell 1
theorem RAt.c2 (H:RAt w p h):w.cell? ⟨p.g,2,none⟩=some (.slice (some ⟨p.gr,0,none⟩) h.roots.length p.cr):=H.1.cell 2
theorem RAt.c3 (H:RAt w p h):w.cell? ⟨p.g,3,none⟩=some (.int .u32 h.last):=H.1.cell 3
theorem RAt.c4 (H:RAt w p h):w.cell? ⟨p.g,4,none⟩=some (.slice (some ⟨p.gs,0,none⟩) h.starts.length p.cs):=H.1.cell 4
theorem RAt.word (H:RAt w p h) {i:Nat} (hi:i<h.words.length):w.cell? ⟨p.gw,i,none⟩=some (.int .u32 ((h.words.getD i 0:Nat):Int)):=H.2.1.cell (u32s_get hi)
theorem RAt.mark (H:RAt w p h) {i:Nat} (hi:i<h.starts.length):w.cell? ⟨p.gs,i,none⟩=some (.int .u8 (if h.starts.getD i false then 1 else 0)):=H.2.2.1.cell (begins_get hi)
theorem RAt.root (H:RAt w p h) {i:Nat} (hi:i<h.roots.length):w.cell? ⟨p.gr,i,none⟩=some (.int .u32 ((h.roots.getD i 0:Nat):Int)):=H.2.2.2.cell (u32s_get hi)
end
theorem HM.Fit.word {h:HM} (f:HM.Fit h) (i:Nat):h.words.getD i 0<4294967296:=by
 rw [List.getD_eq_getElem?_getD]
 cases hi:h.words[i]? with
 | none=>simp
 | some x=>exact f.w32 x (List.mem_of_getElem? hi)
theorem HM.Fit.root {h:HM} (f:HM.Fit h) (i:Nat):h.roots.getD i 0<4294967296:=by
 rw [List.getD_eq_getElem?_getD]
 cases hi:h.roots[i]? with
 | none=>simp
 | some x=>exact f.r32 x (List.mem_of_getElem? hi)
section
variable {w w':World} {p p':HP} {h:HM}
theorem HAt.setWord (H:HAt w p h) (k v:Nat):HAt (w.setCell ⟨p.gw,k,none⟩ (.int .u32 v)) p { h with words:=h.words.set k v }:=by
 obtain⟨hb,hw,hs,hr⟩:=H
 have n1:p.g≠p.gw:=fun e=>Row.ne_blk hw hb (by decide) e.symm
 have n2:p.gs≠p.gw:=hs.ne_ hw (by decide)
 have n3:p.gr≠p.gw:=hr.ne_ hw (by decide)
 refine⟨?_,?_,hs.far n2 _,hr.far n3 _⟩
 ·have:=hb.far (p:=⟨p.gw,k,none⟩) n1 (.int .u32 v)
  simpa using this
 ·have:=hw.set k (.int .u32 v)
  simpa [u32s] using this
theorem HAt.setRoot (H:HAt w p h) (k v:Nat):HAt (w.setCell ⟨p.gr,k,none⟩ (.int .u32 v)) p { h with roots:=h.roots.set k v }:=by
 obtain⟨hb,hw,hs,hr⟩:=H
 have n1:p.g≠p.gr:=fun e=>Row.ne_blk hr hb (by decide) e.symm
 have n2:p.gs≠p.gr:=hs.ne_ hr (by decide)
 have n3:p.gw≠p.gr:=hw.ne_ hr (by decide)
 refine⟨?_,hw.far n3 _,hs.far n2 _,?_⟩
 ·have:=hb.far (p:=⟨p.gr,k,none⟩) n1 (.int .u32 v)
  simpa using this
 ·have:=hr.set k (.int .u32 v)
  simpa [u32s] using this
theorem RAt.setWord (H:RAt w p h) (k v:Nat):RAt (w.setCell ⟨p.gw,k,none⟩ (.int .u32 v)) p { h with words:=h.words.set k v }:=by
 obtain⟨hb,hw,hs,hr⟩:=H
 have n1:p.g≠p.gw:=fun e=>Row.ne_blk hw hb (by decide) e.symm
 have n2:p.gs≠p.gw:=hs.ne_ hw (by decide)
 have n3:p.gr≠p.gw:=hr.ne_ hw (by decide)
 refine⟨?_,?_,hs.far n2 _,hr.far n3 _⟩
 ·have:=hb.far (p:=⟨p.gw,k,none⟩) n1 (.int .u32 v)
  simpa using this
 ·have:=hw.set k (.int .u32 v)
  simpa [u32s] using this
theorem RAt.setRoot (H:RAt w p h) (k v:Nat):RAt (w.setCell ⟨p.gr,k,none⟩ (.int .u32 v)) p { h with roots:=h.roots.set k v }:=by
 obtain⟨hb,hw,hs,hr⟩:=H
 have n1:p.g≠p.gr:=fun e=>Row.ne_blk hr hb (by decide) e.symm
 have n2:p.gs≠p.gr:=hs.ne_ hr (by decide)
 have n3:p.gw≠p.gr:=hw.ne_ hr (by decide)
 refine⟨?_,hw.far n3 _,hs.far n2 _,?_⟩
 ·have:=hb.far (p:=⟨p.gr,k,none⟩) n1 (.int .u32 v)
  simpa using this
 ·have:=hr.set k (.int .u32 v)
  simpa [u32s] using this
theorem Step.setCell (s:Step p p' w w') {a:Addr} (ha:p.has a.block∨w.heap.size≤a.block) (u:Value):Step p p' w (w'.setCell a u):=
 ⟨s.os,s.tape,s.output,by simpa [World.setCell] using s.size,fun k hk hn=>(Below.heap_setCell w' a u k (fun e=>by
   subst e; rcases ha with ha | ha
   ·exact hn ha
   ·omega)).trans (s.block k hk hn),s.g,s.rows⟩
theorem Step.alloc (s:Step p p' w w') (o:Obj):Step p p' w (w'.alloc o):=
 ⟨s.os,s.tape,s.output,Nat.le_trans s.size (by simp),fun k hk hn=>(Below.heap_alloc w' o k (by have:=s.size; omega)).trans (s.block k hk hn),s.g,s.rows⟩
theorem Step.drew (s:Step p p' w w'):Step p p' w w'.drew:=⟨s.os,s.tape,s.output,s.size,s.block,s.g,s.rows⟩
theorem Step.drewN (s:Step p p' w w') (n:Nat):Step p p' w (w'.drewN n):=⟨s.os,s.tape,s.output,s.size,s.block,s.g,s.rows⟩
theorem Step.below' (s:Step p p' w w') {w2:World} (hb:Below w'.heap.size w' w2):Step p p' w w2:=s.trans (.of_below hb)
end
section
variable {w w1:World} {p:HP} {h:HM}
theorem HAt.grewWords (H:HAt w p h) {g1 c1:Nat} {ys:List Nat} (hr:Row w1 g1 37 c1 (u32s (h.words++ys))) (hg:w.grownBy w1 (some p.gw)) (hat:g1=p.gw∨w.heap.size≤g1):
 HAt (w1.setCell ⟨p.g,0,none⟩ (.slice (some ⟨g1,0,none⟩) (h.words++ys).length c1)) { p with gw:=g1,cw:=c1 } { h with words:=h.words++ys }∧
 Step p { p with gw:=g1,cw:=c1 } w (w1.setCell ⟨p.g,0,none⟩ (.slice (some ⟨g1,0,none⟩) (h.words++ys).length c1)):=by
 have Hl:=@HAt.lt _ _ _ H
 obtain⟨hb,hw,hs,hrt⟩:=H
 have n1:p.g≠p.gw:=fun e=>Row.ne_blk hw hb (by decide) e.symm
 have n2:p.gs≠p.gw:=hs.ne_ hw (by decide)
 have n3:p.gr≠p.gw:=hrt.ne_ hw (by decide)
 have hb1:=hb.same (hg.block p.g hb.lt (by simpa using n1))
 have hs1:=hs.same (hg.block p.gs hs.lt (by simpa using n2))
 have hr1:=hrt.same (hg.block p.gr hrt.lt (by simpa using n3))
 refine⟨⟨hb1.set_ 0 _,hr.far (fun e=>Row.ne_blk hr hb1 (by decide) e) _,hs1.far (fun e=>Row.ne_blk hs1 hb1 (by decide) e) _,hr1.far (fun e=>Row.ne_blk hr1 hb1 (by decide) e) _⟩,?_⟩
 have s1:Step p { p with gw:=g1,cw:=c1 } w w1:=⟨hg.os,hg.tape,hg.output,hg.size,fun k hk hn=>hg.block k hk (by
  intro e; injection e with e; exact hn (.inr (.inl e))),rfl,by
  rintro k (hk | hk | hk | hk)
  ·exact .inl (.inl hk)
  ·rcases hat with e | e
   ·exact .inl (.inr (.inl (hk.trans e)))
   ·exact .inr (hk ▸ e)
  ·exact .inl (.inr (.inr (.inl hk)))
  ·exact .inl (.inr (.inr (.inr hk)))⟩
 exact s1.setCell (.inl (.inl rfl)) _
theorem HAt.grewStarts (H:HAt w p h) {g1 c1:Nat} {ys:List Bool} (hr:Row w1 g1 4 c1 (bools (h.starts++ys))) (hg:w.grownBy w1 (some p.gs)) (hat:g1=p.gs∨w.heap.size≤g1):
 HAt (w1.setCell ⟨p.g,1,none⟩ (.slice (some ⟨g1,0,none⟩) (h.starts++ys).length c1)) { p with gs:=g1,cs:=c1 } { h with starts:=h.starts++ys }∧
 Step p { p with gs:=g1,cs:=c1 } w (w1.setCell ⟨p.g,1,none⟩ (.slice (some ⟨g1,0,none⟩) (h.starts++ys).length c1)):=by
 obtain⟨hb,hw,hs,hrt⟩:=H
 have n1:p.g≠p.gs:=fun e=>Row.ne_blk hs hb (by decide) e.symm
 have n2:p.gw≠p.gs:=hw.ne_ hs (by decide)
 have n3:p.gr≠p.gs:=hrt.ne_ hs (by decide)
 have hb1:=hb.same (hg.block p.g hb.lt (by simpa using n1))
 have hw1:=hw.same (hg.block p.gw hw.lt (by simpa using n2))
 have hr1:=hrt.same (hg.block p.gr hrt.lt (by simpa using n3))
 refine⟨⟨hb1.set_ 1 _,hw1.far (fun e=>Row.ne_blk hw1 hb1 (by decide) e) _,hr.far (fun e=>Row.ne_blk hr hb1 (by decide) e) _,hr1.far (fun e=>Row.ne_blk hr1 hb1 (by decide) e) _⟩,?_⟩
 have s1:Step p { p with gs:=g1,cs:=c1 } w w1:=⟨hg.os,hg.tape,hg.output,hg.size,fun k hk hn=>hg.block k hk (by
  intro e; injection e with e; exact hn (.inr (.inr (.inl e)))),rfl,by
  rintro k (hk | hk | hk | hk)
  ·exact .inl (.inl hk)
  ·exact .inl (.inr (.inl hk))
  ·rcases hat with e | e
   ·exact .inl (.inr (.inr (.inl (hk.trans e))))
   ·exact .inr (hk ▸ e)
  ·exact .inl (.inr (.inr (.inr hk)))⟩
 exact s1.setCell (.inl (.inl rfl)) _
theorem HAt.setMark (H:HAt w p h) (k:Nat) (v:Bool):HAt (w.setCell ⟨p.gs,k,none⟩ (.bool v)) p { h with starts:=h.starts.set k v }:=by
 obtain⟨hb,hw,hs,hr⟩:=H
 have n1:p.g≠p.gs:=fun e=>Row.ne_blk hs hb (by decide) e.symm
 have n2:p.gw≠p.gs:=hw.ne_ hs (by decide)
 have n3:p.gr≠p.gs:=hr.ne_ hs (by decide)
 refine⟨?_,hw.far n2 _,?_,hr.far n3 _⟩
 ·have:=hb.far (p:=⟨p.gs,k,none⟩) n1 (.bool v)
  simpa using this
 ·have:=hs.set k (.bool v)
  simpa [bools] using this
theorem HAt.setLast (H:HAt w p h) (v:Nat):HAt (w.setCell ⟨p.g,4,none⟩ (.int .u32 v)) p { h with last:=v }:=by
 obtain⟨hb,hw,hs,hr⟩:=H
 exact⟨hb.set_ 4 _,hw.far (fun e=>Row.ne_blk hw hb (by decide) e) _,hs.far (fun e=>Row.ne_blk hs hb (by decide) e) _,hr.far (fun e=>Row.ne_blk hr hb (by decide) e) _⟩
theorem RAt.setLast (H:RAt w p h) (v:Nat):RAt (w.setCell ⟨p.g,3,none⟩ (.int .u32 v)) p { h with last:=v }:=by
 obtain⟨hb,hw,hs,hr⟩:=H
 exact⟨hb.set_ 3 _,hw.far (fun e=>Row.ne_blk hw hb (by decide) e) _,hs.far (fun e=>Row.ne_blk hs hb (by decide) e) _,hr.far (fun e=>Row.ne_blk hr hb (by decide) e) _⟩
theorem HAt.drew (H:HAt w p h):HAt w.drew p h:=H
theorem HAt.drewN (H:HAt w p h) (n:Nat):HAt (w.drewN n) p h:=H
theorem RAt.drewN (H:RAt w p h) (n:Nat):RAt (w.drewN n) p h:=H
end
end
section
open Go.RowKit
theorem run_part_one {P:Program} (w:World) (e:TypeId) (he:∀ w,(isAgg e).run P w = .ok false w) (xs:Array Value) (i:Nat) (v:Value) (hv:xs[i]? = some v):
 (part e xs i).run P w = .ok v w:=by
 simp [part,he,hv,Sem.run_bind]
theorem run_equalIn_arr3 (w:World) (d:Nat) (a b c a' b' c':Int):
 (Op.equalIn (d+1+1) 170 (.agg #[.int .u32 a,.int .u32 b,.int .u32 c]) (.agg #[.int .u32 a',.int .u32 b',.int .u32 c'])).run Tryz.prog w = .ok (a == a' && (b == b' && c == c')) w:=by
 have ht:Tryz.prog.underlying 170=some (.array 3 37):=Tryz.underlying170
 have he:Tryz.prog.underlying 37=some (.int .u32):=Tryz.underlying37
 have hag:∀ w,(isAgg 37).run Tryz.prog w = .ok false w:=fun w=>by kernel_rfl
 have hsz:∀ w,(sizeOf 37).run Tryz.prog w = .ok 1 w:=fun w=>by kernel_rfl
 have hi:∀ (w:World) (x y:Int),(Op.equalIn (d+1) 37 (.int .u32 x) (.int .u32 y)).run Tryz.prog w = .ok (x == y) w:=fun w x y=>run_equalIn_int w d _ _ _ x y he
 rw [Op.equalIn.eq_def]
 dsimp only
 have p0:∀ (w:World) (x y z:Value),(part 37 #[x,y,z] 0).run Tryz.prog w = .ok x w:=fun w x y z=>run_part_one w _ hag _ 0 x rfl
 have p1:∀ (w:World) (x y z:Value),(part 37 #[x,y,z] 1).run Tryz.prog w = .ok y w:=fun w x y z=>run_part_one w _ hag _ 1 y rfl
 have p2:∀ (w:World) (x y z:Value),(part 37 #[x,y,z] 2).run Tryz.prog w = .ok z w:=fun w x y z=>run_part_one w _ hag _ 2 z rfl
 simp only [Sem.run_bind,run_underlying ht,Result.andThen_ok,hsz]
 simp only [Std.Legacy.Range.forIn_eq_forIn_range',Std.Legacy.Range.size,List.range',Nat.sub_zero,Nat.reduceAdd,Nat.reduceDiv,Nat.reduceSub,List.forIn_cons,List.forIn_nil,Nat.mul_one]
 cases h1:a == a' <;> cases h2:b == b' <;> cases h3:c == c' <;> simp [Sem.run_bind,p0,p1,p2,hi,h1,h2,h3]
theorem run_neq_arr3 (w:World) (a b c a' b' c':Int):
 (binOp .neq 170 (.agg #[.int .u32 a,.int .u32 b,.int .u32 c]) (.agg #[.int .u32 a',.int .u32 b',.int .u32 c'])).run Tryz.prog w = .ok (.bool (!(a == a' && (b == b' && c == c')))) w:=by
 rw [run_neq_struct,show (10000:Nat)=9998+1+1 from rfl,run_equalIn_arr3]
 rfl
end
section
open Go.RowKit
section
variable {P:Program} (w:World)
theorem run_append_of_nil (base:Nat) (t ty e:TypeId) (i:TypeInfo) (size:Nat) (ht:P.underlying t=some (.slice e)) (hi:P.info? e=some i)
 (v:Value) (n:Nat) (xs:List Value) (hown:w.ownsRow base e size v n xs) (c:Nat):(Builtin.append_ #[t,t] ty #[v,.slice none 0 c]).run P w = .ok v w:=by
 rcases hown.2 with ⟨rfl,rfl⟩ | ⟨g,cap,cur,rfl,_,_,hnc,_⟩
 ·simp [Builtin.append_,run_underlying ht,sizeOf,typeInfo,hi,Builtin.lenOf,Builtin.firstCells]
 ·simp [Builtin.append_,run_underlying ht,sizeOf,typeInfo,hi,Builtin.lenOf,Builtin.firstCells,hnc,storeCells]
theorem run_append_any (base:Nat) (t ty e:TypeId) (i:TypeInfo) (z:Value) (size bytes:Nat) (ht:P.underlying t=some (.slice e)) (hi:P.info? e=some i) (hz:i.zero=some z)
 (hsize:i.size=size) (hby:i.bytes=bytes) (hzs:z.cells.size=size) (hsz:0<size)
 (v:Value) (n:Nat) (xs:List Value) (hown:w.ownsRow base e size v n xs)
 (B:Nat) (A:Option Addr) (m c:Nat) (news:List Value) (hr:Reads w B size A m news) (h1:∀ u∈news,u.oneCell'=true)
 (h63:n+m≤maxLen) (hbytes:(n+m)*bytes≤140737488355328) (hbase:base≤w.heap.size):
 ∃ v' w',(Builtin.append_ #[t,t] ty #[v,.slice A m c]).run P w = .ok v' w'∧w'.ownsRow base e size v' (n+m) (xs++news)∧w.grownBy w' v.ownBlock∧
   (v'.ownBlock=v.ownBlock∨v'.ownBlock=some w.heap.size):=by
 rcases A with _ | ad
 ·have hm:m=0:=by
   rcases Nat.eq_zero_or_pos m with h0 | h0
   ·exact h0
   ·obtain⟨ad,h,_⟩:=hr.2 h0
    cases h
  subst hm
  have hn:news=[]:=List.eq_nil_of_length_eq_zero (by simpa using hr.1)
  subst hn
  exact⟨v,w,run_append_of_nil w base t ty e i size ht hi v n xs hown c,by simpa using hown,World.grownBy.refl w _,.inl rfl⟩
 ·have hcells:∀ j u,news[j]? = some u→w.cell? (ad.add j)=some u:=by
   intro j u hu
   rcases Nat.eq_zero_or_pos m with h0 | h0
   ·subst h0
    have hn:news=[]:=List.eq_nil_of_length_eq_zero (by simpa using hr.1)
    subst hn
    simp at hu
   ·obtain⟨ad',h,_,hc⟩:=hr.2 h0
    injection h with h
    subst h
    exact hc j u hu
  obtain⟨v',w',hrun,h2,h3,_,h5⟩:=run_append_own_at (P:=P) w base t ty e i z size bytes ht hi hz hsize hby hzs hsz v n xs hown ad m c news hr.1 hcells h1 h63 hbytes hbase
  exact⟨v',w',hrun,h2,h3,h5⟩
theorem wp_append_any {o:Oper} {a:Act} {K:Act→World→Prop} {Q:Exit→Act→World→Prop} (s x:Operand) (t:TypeId)
 (ho:o.op = .call { callee:=.builtin .append,args:=#[s,x],argTypes:=#[t,t] })
 (base:Nat) (e:TypeId) (i:TypeInfo) (z:Value) (size bytes:Nat) (ht:P.underlying t=some (.slice e)) (hi:P.info? e=some i) (hz:i.zero=some z)
 (hsize:i.size=size) (hby:i.bytes=bytes) (hzs:z.cells.size=size) (hsz:0<size)
 (v:Value) (n:Nat) (xs:List Value) (hs:a.eval s=v) (hown:w.ownsRow base e size v n xs)
 (B:Nat) (A:Option Addr) (m c:Nat) (news:List Value) (hx:a.eval x = .slice A m c) (hr:Reads w B size A m news) (h1:∀ u∈news,u.oneCell'=true)
 (h63:n+m≤maxLen) (hbytes:(n+m)*bytes≤140737488355328) (hbase:base≤w.heap.size)
 (h:∀ v' w',w'.ownsRow base e size v' (n+m) (xs++news)→w.grownBy w' v.ownBlock→(v'.ownBlock=v.ownBlock∨v'.ownBlock=some w.heap.size)→K (a.put o.dst v') w'):o.wp P a w K Q:=by
 obtain⟨v',w',hrun,h2,h3,h4⟩:=run_append_any (P:=P) w base t o.type e i z size bytes ht hi hz hsize hby hzs hsz v n xs hown B A m c news hr h1 h63 hbytes hbase
 unfold Oper.wp execOp
 simp only [ho,resolve,invoke,builtin,Sem.run_bind,Sem.run_pure,Result.andThen_ok,List.map_toArray,List.map_cons,List.map_nil,hs,hx,hrun]
 exact h v' w' h2 h3 h4
theorem wpList_append_any {ops:Array Oper} {rest:List Oper} {o:Oper} {a:Act} {Q:Exit→Act→World→Prop} (hgd:o.guard=none) (s x:Operand) (t:TypeId)
 (ho:o.op = .call { callee:=.builtin .append,args:=#[s,x],argTypes:=#[t,t] })
 (base:Nat) (e:TypeId) (i:TypeInfo) (z:Value) (size bytes:Nat) (ht:P.underlying t=some (.slice e)) (hi:P.info? e=some i) (hz:i.zero=some z)
 (hsize:i.size=size) (hby:i.bytes=bytes) (hzs:z.cells.size=size) (hsz:0<size)
 (v:Value) (n:Nat) (xs:List Value) (hs:a.eval s=v) (hown:w.ownsRow base e size v n xs)
 (B:Nat) (A:Option Addr) (m c:Nat) (news:List Value) (hx:a.eval x = .slice A m c) (hr:Reads w B size A m news) (h1:∀ u∈news,u.oneCell'=true)
 (h63:n+m≤maxLen) (hbytes:(n+m)*bytes≤140737488355328) (hbase:base≤w.heap.size)
 (h:∀ v' w',w'.ownsRow base e size v' (n+m) (xs++news)→w.grownBy w' v.ownBlock→(v'.ownBlock=v.ownBlock∨v'.ownBlock=some w.heap.size)→wpList P ops Q rest (a.put o.dst v') w'):wpList P ops Q (o :: rest) a w:=
 wpList_plain hgd fun _ hK=>wp_append_any w s x t ho base e i z size bytes ht hi hz hsize hby hzs hsz v n xs hs hown B A m c news hx hr h1 h63 hbytes hbase fun v' w' h2 h3 h4=>hK _ _ (h v' w' h2 h3 h4)
theorem step_append_any {ops:Array Oper} {o:Oper} {a:Act} {K:Act→World→Prop} {Q:Exit→Act→World→Prop} {E:Prop} (hgd:o.guard=none) (s x:Operand) (t:TypeId)
 (ho:o.op = .call { callee:=.builtin .append,args:=#[s,x],argTypes:=#[t,t] })
 (base:Nat) (e:TypeId) (i:TypeInfo) (z:Value) (size bytes:Nat) (ht:P.underlying t=some (.slice e)) (hi:P.info? e=some i) (hz:i.zero=some z)
 (hsize:i.size=size) (hby:i.bytes=bytes) (hzs:z.cells.size=size) (hsz:0<size)
 (v:Value) (n:Nat) (xs:List Value) (hs:a.eval s=v) (hown:w.ownsRow base e size v n xs)
 (B:Nat) (A:Option Addr) (m c:Nat) (news:List Value) (hx:a.eval x = .slice A m c) (hr:Reads w B size A m news) (h1:∀ u∈news,u.oneCell'=true)
 (h63:n+m≤maxLen) (hbytes:(n+m)*bytes≤140737488355328) (hbase:base≤w.heap.size)
 (h:∀ v' w',w'.ownsRow base e size v' (n+m) (xs++news)→w.grownBy w' v.ownBlock→(v'.ownBlock=v.ownBlock∨v'.ownBlock=some w.heap.size)→K (a.put o.dst v') w'):
 if Region.wanted o (yielded ops a.tmps)=true then Oper.wp P o a w K Q else E:=by
 have hw:Region.wanted o (yielded ops a.tmps)=true:=by simp [Region.wanted,hgd]
 rw [if_pos hw]
 exact wp_append_any w s x t ho base e i z size bytes ht hi hz hsize hby hzs hsz v n xs hs hown B A m c news hx hr h1 h63 hbytes hbase h
end
theorem Row.of_any {w':World} {base e n:Nat} {v:Value} {xs:List Value} (h:w'.ownsRow base e 1 v n xs) (hn:0<n):∃ g c,v = .slice (some ⟨g,0,none⟩) n c∧Row w' g e c xs∧xs.length=n∧base≤g:=by
 obtain⟨g,cap,hv,hb,hlt⟩:=h.form hn
 subst hv
 obtain⟨h1,h2,h3⟩:=Row.of_owns h
 exact⟨g,cap,rfl,h1,h2,h3⟩
end
section
open Go.RowKit
def sameL (xs ys:List Nat):Bool:=xs == ys
theorem sameL_self (xs:List Nat):sameL xs xs=true:=by simp [sameL]
theorem sameL_len {xs ys:List Nat} (h:xs.length≠ys.length):sameL xs ys=false:=by
 unfold sameL
 rw [beq_eq_false_iff_ne]
 exact fun e=>h (congrArg List.length e)
theorem sameL_at {xs ys:List Nat} {k:Nat} (hx:k<xs.length) (hy:k<ys.length) (h:xs.getD k 0≠ys.getD k 0):sameL xs ys=false:=by
 unfold sameL
 rw [beq_eq_false_iff_ne]
 exact fun e=>h (by rw [e])
theorem take_eq_succ {xs ys:List Nat} {k:Nat} (hx:k<xs.length) (hy:k<ys.length) (h:xs.getD k 0=ys.getD k 0) (ht:xs.take k=ys.take k):xs.take (k+1)=ys.take (k+1):=by
 rw [List.take_add_one,List.take_add_one,ht,List.getElem?_eq_getElem hx,List.getElem?_eq_getElem hy]
 rw [List.getD_eq_getElem?_getD,List.getD_eq_getElem?_getD,List.getElem?_eq_getElem hx,List.getElem?_eq_getElem hy] at h
 simp at h
 rw [h]
theorem sameL_all {xs ys:List Nat} {n:Nat} (hx:xs.length=n) (hy:ys.length=n) (ht:xs.take n=ys.take n):sameL xs ys=true:=by
 rw [List.take_of_length_le (by omega),List.take_of_length_le (by omega)] at ht
 rw [ht]
 exact sameL_self _
end
end Go.Proofs.YtdoahpflemgaeaaGreatDoor
