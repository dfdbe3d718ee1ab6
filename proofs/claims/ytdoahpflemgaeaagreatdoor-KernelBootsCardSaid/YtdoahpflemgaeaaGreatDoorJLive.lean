import Derived.Test.YtdoahpflemgaeaaGreatDoorJMake
import Derived.Test.YtdoahpflemgaeaaGreatDoorJShow
import Derived.Test.YtdoahpflemgaeaaGreatDoorJBytesOf
set_option linter.unusedVariables false
set_option linter.unusedSimpArgs false
set_option linter.unusedSectionVars false
namespace Go.Proofs.YtdoahpflemgaeaaGreatDoor
section
open Go.RowKit
structure Env (w:World):Prop where
 spares:Spares w
 pow:Pow w
theorem Pow.lt {w:World} (h:Pow w):2<w.heap.size:=by
 have c:=Lib.TabIs.cell h pow_named 0 (by decide)
 exact World.block_lt_of_cell? _ _ c
theorem Env.below {w w':World} (E:Env w) (hb:Below w.heap.size w w'):Env w':=⟨E.spares.below hb,E.pow.below hb⟩
theorem Env.far {W:World} (E:Env W) {p:HP} (hn:∀ k,p.has k→W.heap.size≤k):Far p:=fun k hk=>by
 have h1:=hn k hk
 have h2:=E.spares.lt
 have h3:=E.pow.lt
 exact⟨by omega,by omega⟩
structure Live (W w:World) (p:HP) (g:Nat) (h:HM):Prop where
 at_:HAt w p h
 hg:p.g=g
 good:∃ l,h.Good l
 env:Env W
 new:∀ k,p.has k→W.heap.size≤k
 below:Below W.heap.size W w
section
variable {W w w':World} {p p':HP} {g:Nat} {h h':HM}
theorem Live.fit (L:Live W w p g h):h.Fit:=by obtain⟨l,G⟩:=L.good; exact G.fit
theorem Live.heads (L:Live W w p g h):h.Heads:=by obtain⟨l,G⟩:=L.good; exact G.laid.heads
theorem Live.far (L:Live W w p g h):Far p:=L.env.far L.new
theorem Live.envw (L:Live W w p g h):Env w:=L.env.below L.below
theorem Live.after (L:Live W w p g h) (hb:Below w.heap.size w w'):Live W w' p g h:=
 ⟨L.at_.below hb,L.hg,L.good,L.env,L.new,below_top L.below hb⟩
theorem Live.step (L:Live W w p g h) (H:HAt w' p' h') (s:Step p p' w w') (G:∃ l,h'.Good l):Live W w' p' g h':=
 ⟨H,s.g.trans L.hg,G,L.env,fun k hk=>(s.rows k hk).elim (L.new k) (fun hk=>Nat.le_trans L.below.size hk),s.below L.below L.new⟩
theorem Step.row {e:TypeId} {gr c:Nat} {xs:List Value} (s:Step p p' w w') (hr:Row w gr e c xs) (hn:¬ p.has gr):Row w' gr e c xs∧¬ p'.has gr:=
 ⟨hr.same (s.block gr hr.lt hn),fun hh=>by
   rcases s.rows gr hh with hh | hh
   ·exact hn hh
   ·have:=hr.lt; omega⟩
theorem Live.of_new {n:Nat} {v:Nat→Value} {d:Ending} (E:Env W) (h1:64≤n) (h2:n≤1048576) (H:NewHeap HAt v (HM.new n) W d w'):
 ∃ p g,d = .returned (v g)∧Live W w' p g (HM.new n):=by
 obtain⟨p,hd,H1,hn,hb⟩:=H
 exact⟨p,p.g,hd,H1,rfl,⟨[],HM.new_good h1 h2 (HM.new_fit h1 h2)⟩,E,hn,hb⟩
def HM.AllocO (h:HM) (c:Nat) (f n:Int):Nat:=if h.AllocE c f n=0 then 2*h.words.length else 0
def HM.makeO (h:HM) (c:Nat) (bs:List Nat):Nat:=if h.makeE c bs=0 then 2*h.words.length else 0
theorem HM.AllocV_eq (h:HM) (c:Nat) (f n:Int):h.AllocV c f n = .tuple #[.int .u32 (h.AllocO c f n:Nat),.int .i64 (h.AllocE c f n:Nat)]:=by
 unfold HM.AllocV HM.AllocO HM.AllocE
 by_cases hok:allocOk f n=true
 ·rw [if_pos hok,if_pos hok]; rfl
 ·rw [if_neg hok,if_neg hok]; rfl
theorem HM.makeV_eq (h:HM) (c:Nat) (bs:List Nat):h.makeV c bs = .tuple #[.int .u32 (h.makeO c bs:Nat),.int .i64 (h.makeE c bs:Nat)]:=rfl
def Done (W:World) (p:HP) (g:Nat) (h':HM) (v:Value) (w:World) (e:Ending) (w':World):Prop:=
 ∃ p',e = .returned v∧Live W w' p' g h'∧Step p p' w w'
theorem Live.of_made {v:Value} {d:Ending} (L:Live W w p g h) (G:∃ l,h'.Good l) (H:Made p h' v w d w'):Done W p g h' v w d w':=by
 obtain⟨p',rfl,H',s⟩:=H
 exact⟨p',rfl,L.step H' s G,s⟩
theorem Live.of_deed {E:Nat} {d:Ending} (L:Live W w p g h) (G:∃ l,h'.Good l) (H:Deeds p h' E w d w'):Done W p g h' (.int .i64 E) w d w':=by
 obtain⟨rfl,H',s⟩:=H
 exact⟨p,rfl,L.step H' s G,s⟩
theorem Live.alloc (L:Live W w p g h) (c:Nat) (hc:c<4294967296) (t n:Int):
 Calls Tryz.prog 38 #[.pointer (some ⟨g,0,none⟩),.int .u32 c,.int .i64 t,.int .i64 n] w (Done W p g (h.AllocH c t n) (.tuple #[.int .u32 (h.AllocO c t n:Nat),.int .i64 (h.AllocE c t n:Nat)]) w):=by
 have hh:=Alloc_any L.at_ L.fit L.envw.spares L.far c hc t n
 rw [L.hg,HM.AllocV_eq] at hh
 exact hh.mono fun _ _ H=>L.of_made (by obtain⟨l,G⟩:=L.good; exact G.AllocH c t n hc) H
theorem Live.make (L:Live W w p g h) (c:Nat) (hc:c<4294967296) (A:Option Addr) (n cap:Nat) (bs:List Nat) (hn:n≤9223372036854775807) (hr:Reads w w.heap.size 1 A n (u8c bs)) (hb:∀ x∈bs,x<256):
 Calls Tryz.prog 136 #[.pointer (some ⟨g,0,none⟩),.int .u32 c,.slice A n cap] w (Done W p g (h.makeH c bs) (.tuple #[.int .u32 (h.makeO c bs:Nat),.int .i64 (h.makeE c bs:Nat)]) w):=by
 have hh:=Make_any L.at_ L.fit L.envw.spares L.far c hc A n cap _ bs hn hr (Nat.le_refl _) hb
 rw [L.hg,HM.makeV_eq] at hh
 exact hh.mono fun _ _ H=>L.of_made (by obtain⟨l,G⟩:=L.good; exact G.MakeH c bs hc hb) H
theorem Live.put (L:Live W w p g h) (o:Nat) (ho:o<4294967296) (i:Int) (v:Nat) (hv:v<4294967296):
 Calls Tryz.prog 44 #[.pointer (some ⟨g,0,none⟩),.int .u32 o,.int .i64 i,.int .u32 v] w (Done W p g (h.putH o i v) (.int .i64 (h.putE o i v:Nat)) w):=by
 have hh:=put_any L.at_ L.fit L.heads L.envw.spares o ho i v hv
 rw [L.hg] at hh
 exact hh.mono fun _ _ H=>L.of_deed (by obtain⟨l,G⟩:=L.good; obtain⟨l',G',_⟩:=G.putH o i v hv; exact⟨l',G'⟩) H
theorem Live.setClass (L:Live W w p g h) (o:Nat) (ho:o<4294967296) (v:Nat) (hv:v<4294967296):
 Calls Tryz.prog 45 #[.pointer (some ⟨g,0,none⟩),.int .u32 o,.int .u32 v] w (Done W p g (h.setClassH o v) (.int .i64 (h.setClassE o v:Nat)) w):=by
 have hh:=setClass_any L.at_ L.fit L.heads o ho v hv
 rw [L.hg] at hh
 exact hh.mono fun _ _ H=>L.of_deed (by obtain⟨l,G⟩:=L.good; obtain⟨l',G',_⟩:=G.setClassH o v hv; exact⟨l',G'⟩) H
theorem Live.setRoot (L:Live W w p g h) (i:Int) (v:Nat) (hv:v<4294967296):
 Calls Tryz.prog 10 #[.pointer (some ⟨g,0,none⟩),.int .i64 i,.int .u32 v] w (Done W p g (h.setRootH i v) (.int .i64 (h.setRootE i v:Nat)) w):=by
 have hh:=setRoot_any L.at_ L.fit i v hv
 rw [L.hg] at hh
 exact hh.mono fun _ _ H=>L.of_deed (by obtain⟨l,G⟩:=L.good; exact⟨l,G.setRootH i v hv⟩) H
def Told (v:Value) (w:World) (e:Ending) (w':World):Prop:=e = .returned v∧Below w.heap.size w w'
theorem Live.get (L:Live W w p g h) (o:Nat) (ho:o<4294967296) (i:Int):
 Calls Tryz.prog 119 #[.pointer (some ⟨g,0,none⟩),.int .u32 o,.int .i64 i] w (Told (.tuple #[.int .u32 (h.readN o i [1,4]:Nat),.int .i64 (h.lookE o i [1,4]:Nat)]) w):=by
 have hh:=get_any L.at_ L.fit L.heads L.envw.spares o ho i
 rw [L.hg] at hh
 exact hh
def HM.isE (h:HM) (o:Nat):Nat:=if h.isB o then 0 else 3
def HM.hdO (h:HM) (o:Nat):Hd:=if h.isB o then h.hd (o / 2) else ⟨0,0,0,0,0⟩
theorem HM.headerV_eq (h:HM) (o:Nat):h.headerV o = .tuple #[(h.hdO o).val,.int .i64 (h.isE o:Nat)]:=by
 unfold HM.headerV HM.hdO HM.isE; cases h.isB o <;> rfl
theorem Live.header (L:Live W w p g h) (o:Nat) (ho:o<4294967296):
 Calls Tryz.prog 116 #[.pointer (some ⟨g,0,none⟩),.int .u32 o] w (Told (.tuple #[(h.hdO o).val,.int .i64 (h.isE o:Nat)]) w):=by
 have hh:=Header_any L.at_ L.fit L.heads L.envw.spares o ho
 rw [L.hg,HM.headerV_eq] at hh
 exact hh
def HM.lenN (h:HM) (o:Nat):Nat:=if h.isB o then (h.hd (o / 2)).len else 0
theorem Live.length (L:Live W w p g h) (o:Nat) (ho:o<4294967296):
 Calls Tryz.prog 161 #[.pointer (some ⟨g,0,none⟩),.int .u32 o] w (Told (.tuple #[.int .i64 (h.lenN o:Nat),.int .i64 (h.isE o:Nat)]) w):=by
 have hh:=Length_any L.at_ L.fit L.heads L.envw.spares o ho
 rw [L.hg] at hh
 exact hh
theorem Live.bytes (L:Live W w p g h) (o:Nat) (ho:o<4294967296):
 Calls Tryz.prog 78 #[.pointer (some ⟨g,0,none⟩),.int .u32 o] w (BytesP h o w):=by
 have hh:=bytes_any L.at_ L.fit L.heads L.envw.spares o ho
 rw [L.hg] at hh
 exact hh
def Said (v:Value) (w:World) (e:Ending) (w':World):Prop:=e = .returned v∧w=w'
theorem Live.is (L:Live W w p g h) (o:Nat) (ho:o<4294967296):
 Calls Tryz.prog 84 #[.pointer (some ⟨g,0,none⟩),.int .u32 o] w (Said (.bool (h.isB o)) w):=by
 have hh:=is_any L.at_ L.fit o ho
 rw [L.hg] at hh
 exact hh
theorem Live.size (L:Live W w p g h):Calls Tryz.prog 28 #[.pointer (some ⟨g,0,none⟩)] w (Said (.int .i64 (h.size:Nat)) w):=by
 have hh:=size_any L.at_ L.fit
 rw [L.hg] at hh
 exact hh
theorem Live.top (L:Live W w p g h):Calls Tryz.prog 29 #[.pointer (some ⟨g,0,none⟩)] w (Said (.int .i64 (h.words.length:Nat)) w):=by
 have hh:=top_any L.at_ L.fit
 rw [L.hg] at hh
 exact hh
theorem Live.last (L:Live W w p g h):Calls Tryz.prog 31 #[.pointer (some ⟨g,0,none⟩)] w (Said (.int .u32 (h.last:Nat)) w):=by
 have hh:=last_any L.at_ L.fit
 rw [L.hg] at hh
 exact hh
def HM.rootN (h:HM) (i:Int):Nat:=if rootOk i then h.roots.getD i.toNat 0 else 0
def rootE (i:Int):Nat:=if rootOk i then 0 else 1
theorem Live.root (L:Live W w p g h) (i:Int):Calls Tryz.prog 23 #[.pointer (some ⟨g,0,none⟩),.int .i64 i] w (Said (.tuple #[.int .u32 (h.rootN i:Nat),.int .i64 (rootE i:Nat)]) w):=by
 have hh:=root_any L.at_ L.fit i
 rw [L.hg,show h.rootV i = .tuple #[.int .u32 (h.rootN i:Nat),.int .i64 (rootE i:Nat)] by
  unfold HM.rootV HM.rootN rootE; cases rootOk i <;> rfl] at hh
 exact hh
theorem Live.words (L:Live W w p g h):Calls Tryz.prog 33 #[.pointer (some ⟨g,0,none⟩)] w (NewRow 37 (u32s h.words) w):=by
 have hh:=words_any L.at_ L.fit
 rw [L.hg] at hh
 exact hh
theorem Live.roots (L:Live W w p g h):Calls Tryz.prog 35 #[.pointer (some ⟨g,0,none⟩)] w (NewRow 38 (u32s h.roots) w):=by
 have hh:=roots_any L.at_ L.fit
 rw [L.hg] at hh
 exact hh
end
end
section
open Go.RowKit
def tx (s:String):List Nat:=s.toUTF8.data.toList.map UInt8.toNat
def HM.rt (h:HM) (i:Nat):Nat:=h.roots.getD i 0
def HM.bareK (h:HM):Bool:=decide (h.rt 12%2=1) || decide (h.rt 18%2=1) || decide (h.rt 19%2=1) || decide (h.rt 20%2=1) || decide (h.rt 23%2=1)
def HM.ptrsK (h:HM) (o n:Nat):Bool:=h.isB o && (decide ((h.hd (o / 2)).fmt=1) && decide (n≤(h.hd (o / 2)).size))
def HM.fldK (h:HM) (o i:Nat):Nat:=if h.ptrsK o 0 then h.readN o i [1,4] else 0
def HM.sizK (h:HM) (o:Nat):Nat:=(h.hdO o).size
def HM.entK (h:HM) (a:Nat):List Nat:=if h.ptrsK a 0 then ((List.range (h.sizK a)).map fun i:Nat=>h.readN a i [1,4]).takeWhile (· ≠h.rt 0) else []
def HM.bodyK (h:HM) (o:Nat):List Nat:=(List.range (h.lenN o)).map fun i=>h.byteN o (i:Nat)
def HM.isTx (h:HM) (o:Nat) (t:List Nat):Bool:=h.isB o && (decide ((h.hd (o / 2)).fmt=2) && (decide (h.lenN o=t.length) && decide (h.bodyK o=t)))
def HM.symK (h:HM) (t:List Nat):Nat:=if h.bareK then 0 else ((h.entK (h.rt 3)).find? (h.isTx · t)).getD 0
def HM.copyK (h:HM) (b:Nat) (f:Nat→Nat) (n:Nat):HM:=(List.range n).foldl (fun h (i:Nat)=>h.putH b i (f i)) h
def HM.grownK (h:HM) (a n:Nat):HM × Nat × Nat:=
 if h.sizK a=65535 then (h,0,4)
 else if h.AllocE (h.rt 20) 1 (min n 65535:Nat)≠0 then (h,0,h.AllocE (h.rt 20) 1 (min n 65535:Nat))
 else ((h.AllocH (h.rt 20) 1 (min n 65535:Nat)).copyK (2*h.words.length) (h.fldK a) (h.sizK a),2*h.words.length,0)
def HM.addK (h:HM) (r o:Nat):HM × Nat:=
 if (h.entK (h.rt r)).length=h.sizK (h.rt r) then
  if (h.grownK (h.rt r) (max 1 (2*h.sizK (h.rt r)))).2.2≠0 then (h,(h.grownK (h.rt r) (max 1 (2*h.sizK (h.rt r)))).2.2)
  else (((h.grownK (h.rt r) (max 1 (2*h.sizK (h.rt r)))).1.setRootH r (h.grownK (h.rt r) (max 1 (2*h.sizK (h.rt r)))).2.1).putH (h.grownK (h.rt r) (max 1 (2*h.sizK (h.rt r)))).2.1 (h.entK (h.rt r)).length o,0)
 else (h.putH (h.rt r) (h.entK (h.rt r)).length o,0)
def HM.internK (h:HM) (t:List Nat):HM × Nat × Nat:=
 if h.symK t≠0 then (h,h.symK t,0)
 else if h.bareK∨h.ptrsK (h.rt 3) 0=false then (h,0,40)
 else if h.makeE (h.rt 18) t≠0 then (h,0,h.makeE (h.rt 18) t)
 else if ((h.makeH (h.rt 18) t).addK 3 (2*h.words.length)).2≠0 then (h,0,((h.makeH (h.rt 18) t).addK 3 (2*h.words.length)).2)
 else (((h.makeH (h.rt 18) t).addK 3 (2*h.words.length)).1,2*h.words.length,0)
def HM.isGlo (h:HM) (t:List Nat) (o:Nat):Bool:=h.ptrsK o 2 && h.isTx (h.fldK o 0) t
def HM.gloK (h:HM) (t:List Nat):Nat:=if h.bareK then 0 else ((h.entK (h.rt 4)).find? (h.isGlo t)).getD 0
def HM.setGloK (h:HM) (t:List Nat) (v:Nat):HM × Nat × Nat:=
 if h.bareK then (h,0,40)
 else if h.valB v=false then (h,0,3)
 else if h.gloK t≠0 then (h.putH (h.gloK t) 1 v,h.gloK t,0)
 else if h.ptrsK (h.rt 4) 0=false then (h,0,40)
 else
  let i:=h.internK t
  if i.2.2≠0 then (h,0,i.2.2)
  else if i.1.AllocE (i.1.rt 23) 1 2≠0 then (h,0,i.1.AllocE (i.1.rt 23) 1 2)
  else
   let a:=2*i.1.words.length
   let s:=(((i.1.AllocH (i.1.rt 23) 1 2).putH a 0 i.2.1).putH a 1 v).addK 4 a
   if s.2≠0 then (h,0,s.2) else (s.1,a,0)
def HM.arrK (h:HM) (l:List Nat):HM × Nat × Nat:=
 if h.bareK then (h,0,40)
 else if l.any (fun o=> !h.valB o) then (h,0,3)
 else if 65535<l.length then (h,0,2)
 else if h.AllocE (h.rt 20) 1 l.length≠0 then (h,0,h.AllocE (h.rt 20) 1 l.length)
 else ((h.AllocH (h.rt 20) 1 l.length).copyK (2*h.words.length) (fun i=>l.getD i 0) l.length,2*h.words.length,0)
def HM.symsK (h:HM):List (List Nat)→HM × List Nat × Nat
 | []=>(h,[],0)
 | t :: ts=>if (h.internK t).2.2≠0 then ((h.internK t).1,[],(h.internK t).2.2) else
   (((h.internK t).1.symsK ts).1,(h.internK t).2.1 :: ((h.internK t).1.symsK ts).2.1,((h.internK t).1.symsK ts).2.2)
def HM.ownK (h:HM) (c:Nat) (ts:List (List Nat)):HM × Nat:=
 let s:=h.symsK ts
 if s.2.2≠0 then (s.1,s.2.2)
 else
  let a:=s.1.arrK s.2.1
  if a.2.2≠0 then (a.1,a.2.2) else (a.1.putH c 3 a.2.1,a.1.putE c 3 a.2.1)
structure KRow where
 name:String
 sup:Nat
 fmt:Nat
 fields:List String
 idx:Bool
def kRows:List KRow:=[
 ⟨"Object",0,1,[],false⟩,⟨"Class",10,1,["name", "superclass", "methods", "fields", "format", "this"],false⟩,⟨"Metaclass",11,1,[],false⟩,⟨"UndefinedObject",10,1,[],false⟩,
 ⟨"True",10,1,[],false⟩,⟨"False",10,1,[],false⟩,⟨"SmallInteger",31,1,[],false⟩,⟨"LargeInteger",31,3,[],true⟩,⟨"Symbol",19,2,[],true⟩,⟨"String",10,2,[],true⟩,
 ⟨"Array",10,1,[],true⟩,⟨"WeakArray",10,4,[],true⟩,⟨"ByteArray",10,2,[],true⟩,⟨"Association",10,1,["key", "value"],false⟩,
 ⟨"Method",10,1,["header", "selector", "class", "literals", "code", "source", "primitive"],false⟩,⟨"Block",10,1,["outer", "pc", "arguments", "temporaries", "home", "stack"],false⟩,
 ⟨"Context",10,1,["sender", "pc", "top", "method", "receiver", "closure", "mark"],true⟩,⟨"Message",10,1,["selector", "arguments"],false⟩,
 ⟨"Process",10,1,["context", "priority", "next", "name", "wake", "waiting", "result"],false⟩,⟨"Semaphore",10,1,["signals", "first", "last"],false⟩,
 ⟨"Exception",10,1,["messageText", "signalContext", "handlerContext", "tag"],false⟩,⟨"Integer",10,1,[],false⟩]
def kSels:List String:=["doesNotUnderstand:", "mustBeBoolean", "cannotReturn:", "aboutToReturn:through:", "value", "value:", "value:value:", "value:value:value:", "doIt", "signal", "unwind"]
abbrev BS:=HM × Nat
def bAlloc (s:BS) (n:Nat):BS × Nat:=if s.2≠0 then (s,0) else ((s.1.AllocH 0 1 n,s.1.AllocE 0 1 n),s.1.AllocO 0 1 n)
def bRoot (s:BS) (i n:Nat):BS:=((bAlloc s n).1.1.setRootH i (bAlloc s n).2,(bAlloc s n).1.2)
def fixK (root:Nat) (fuel:Nat):Nat:=match fuel with
 | 0=>0
 | f+1=>if root=0 then 0 else ((kRows.getD (root-10) ⟨"",0,0,[],false⟩).fields.length+fixK (kRows.getD (root-10) ⟨"",0,0,[],false⟩).sup f)
def smN (n:Nat):Nat:=2*n+1
def fmtK (r:KRow) (i:Nat):Nat:=r.fmt+8*fixK (10+i) 30+(if r.idx then 65536 else 0)
def bPairs (s:BS):BS × List Nat:=(List.range 22).foldl (fun q i=>((bAlloc (bRoot q.1 (10+i) 6) 6).1,q.2++[(bAlloc (bRoot q.1 (10+i) 6) 6).2])) (s,[])
def bWire (ms:List Nat) (h:HM) (x:KRow × Nat):HM:=
 let c:=h.rt (10+x.2)
 let m:=ms.getD x.2 0
 let h:=h.putH c 4 (smN (fmtK x.1 x.2))
 let h:=h.putH m 4 (smN 49)
 let h:=h.putH m 5 c
 let h:=h.putH m 1 (h.rt 11)
 let h:=if x.1.sup=0 then h else (h.putH c 1 (h.rt x.1.sup)).putH m 1 (ms.getD (x.1.sup-10) 0)
 let h:=h.setClassH c m
 h.setClassH m (h.rt 12)
def bClasses (s:BS):BS:=
 let q:=bPairs s
 if q.1.2≠0 then q.1 else
  let h:=kRows.zipIdx.foldl (bWire q.2) q.1.1
  let h:=[0,1,2].foldl (fun h i=>h.setClassH (h.rt i) (h.rt (13+i))) h
  ([3,4,6,8].foldl (fun h i=>h.setClassH (h.rt i) (h.rt 20)) h,0)
def bIntern (s:BS) (t:List Nat):BS × Nat:=if s.2≠0 then (s,0) else (((s.1.internK t).1,(s.1.internK t).2.2),(s.1.internK t).2.1)
def bName (s:BS) (x:KRow × Nat):BS:=
 if s.2≠0 then s else
  let q:=bIntern s (tx x.1.name)
  if q.1.2≠0 then q.1 else
   let h:=q.1.1.putH (q.1.1.rt (10+x.2)) 0 q.2
   ((h.setGloK (tx x.1.name) (h.rt (10+x.2))).1,(h.setGloK (tx x.1.name) (h.rt (10+x.2))).2.2)
def bSel (s:BS) (x:String × Nat):BS:=((bIntern s (tx x.1)).1.1.putH ((bIntern s (tx x.1)).1.1.rt 8) x.2 (bIntern s (tx x.1)).2,(bIntern s (tx x.1)).1.2)
def bOwn (s:BS) (x:KRow × Nat):BS:=if x.1.fields=[]∨s.2≠0 then s else s.1.ownK (s.1.rt (10+x.2)) (x.1.fields.map tx)
def bootK (size:Nat):BS:=
 let s:BS:=(HM.new size,0)
 let s:=[0,1,2].foldl (fun s i=>bRoot s i 0) s
 let s:=[(3,128),(4,32),(6,8),(8,16)].foldl (fun s x=>bRoot s x.1 x.2) s
 let s:BS:=([5,7,9].foldl (fun h i=>h.setRootH i (h.rt 0)) s.1,s.2)
 let s:=bClasses s
 let s:=kRows.zipIdx.foldl bName s
 let s:=kSels.zipIdx.foldl bSel s
 kRows.zipIdx.foldl bOwn s
end
section
open Go.RowKit
attribute [local go_sem] Oper.semAt_some
theorem rootN_rt (h:HM) {i:Nat} (hi:i<64):h.rootN (i:Int)=h.rt i:=by
 unfold HM.rootN rootOk HM.rt
 rw [if_pos (by simp; omega)]
 rfl
theorem HM.Fit.rtN {h:HM} (f:h.Fit) (i:Int):h.rootN i<4294967296:=by
 unfold HM.rootN
 split
 ·exact f.root _
 ·omega
def HM.usedK (h:HM) (o:Nat):Nat:=(List.range (h.sizK o)).findIdx fun i:Nat=>decide (h.lookE o i [1,4]≠0) || decide (h.readN o i [1,4]=h.rt 0)
section
variable {W w:World} {p:HP} {g:Nat} {h:HM} (L:Live W w p g h)
include L
theorem kroot_any (i:Int):Calls Tryz.prog 12 #[.pointer (some ⟨g,0,none⟩),.int .i64 i] w (Said (.int .u32 (h.rootN i:Nat)) w):=by
 have HR:=Lib.hid (L.root i)
 clear L
 generalize h.rootN i=r at *
 go_enter Tryz.func12,Tryz.ntmps12
 go_wp2_with fail
 refine HR.out.mono ?_
 rintro e w' ⟨rfl,rfl⟩
 go_wp2_with fail
 go_ret
 exact⟨rfl,rfl⟩
theorem kptrs_any (o:Nat) (ho:o<4294967296) (n:Nat) (hn:n≤9223372036854775807):Calls Tryz.prog 76 #[.pointer (some ⟨g,0,none⟩),.int .u32 o,.int .i64 n] w (Told (.bool (h.ptrsK o n)) w):=by
 have HH:=Lib.hid (L.header o ho)
 have HF:=Lib.hid (show h.ptrsK o n=(decide (h.isE o=0) && (decide ((h.hdO o).fmt=1) && decide (n≤(h.hdO o).size))) from by
  unfold HM.ptrsK HM.isE HM.hdO
  cases h.isB o <;> simp)
 clear L
 rw [HF.out]
 generalize h.isE o=E at *
 generalize h.hdO o=x at *
 obtain⟨sz,fm,sp,cl,se⟩:=x
 clear HF
 go_enter Tryz.func76,Tryz.ntmps76
 go_wp2_with fail
 refine HH.out.mono ?_
 rintro e w1 ⟨rfl,hb1⟩
 have HB:=Lib.hid (hb1.alloc hb1.size (.cells #[.int .i64 sz,.int .i64 fm,.int .i64 sp,.int .u32 cl,.int .u32 se] 137))
 clear HH hb1
 simp only
 unfold Hd.val
 by_cases h1:E=0
 ·subst h1
  by_cases h2:fm=1
  ·subst h2
   by_cases h3:n≤sz
   ·have hd:decide ((sz:Int)≥(n:Int))=true:=decide_eq_true (by omega)
    have hd2:decide ((n:Int)≤(sz:Int))=true:=decide_eq_true (by omega)
    have hd3:decide (n≤sz)=true:=decide_eq_true h3
    clear h3
    go_wp2_with fail
    go_ret
    exact⟨by simp [hd3],HB.out⟩
   ·have hd:decide ((sz:Int)≥(n:Int))=false:=decide_eq_false (by omega)
    have hd2:decide ((n:Int)≤(sz:Int))=false:=decide_eq_false (by omega)
    have hd3:decide (n≤sz)=false:=decide_eq_false h3
    clear h3
    go_wp2_with fail
    go_ret
    exact⟨by simp [hd3],HB.out⟩
  ·have hq:((fm:Int) == 1)=false:=by simp; omega
   have hd3:decide (fm=1)=false:=decide_eq_false h2
   clear h2
   go_wp2_with fail
   go_ret
   exact⟨by simp [hd3],HB.out⟩
 ·have hq:((E:Int) == 0)=false:=by simp; omega
  have hd3:decide (E=0)=false:=decide_eq_false h1
  clear h1
  go_wp2_with fail
  go_ret
  exact⟨by simp [hd3],HB.out⟩
theorem kfield_any (o:Nat) (ho:o<4294967296) (i:Nat):Calls Tryz.prog 75 #[.pointer (some ⟨g,0,none⟩),.int .u32 o,.int .i64 i] w (Told (.int .u32 (h.fldK o i:Nat)) w):=by
 have HP:=Lib.hid (kptrs_any L o ho 0 (by omega))
 have HG:=Lib.hid (fun (w1:World) (hb:Below w.heap.size w w1)=>(L.after hb).get o ho (i:Int))
 have HFD:=Lib.hid (show h.fldK o i=if h.ptrsK o 0 then h.readN o i [1,4] else 0 from rfl)
 clear L
 generalize h.fldK o i=v at *
 generalize h.readN o i [1,4]=r at *
 generalize h.lookE o i [1,4]=E at *
 go_enter Tryz.func75,Tryz.ntmps75
 go_wp2_with fail
 refine HP.out.mono ?_
 rintro e w1 ⟨rfl,hb1⟩
 cases hp:h.ptrsK o 0 with
 | false=>
   have HV:=Lib.hid (show v=0 from by rw [HFD.out,hp]; rfl)
   have HB:=Lib.hid hb1
   clear HP HG HFD hp hb1
   go_wp2_with fail
   go_ret
   exact⟨by rw [HV.out]; rfl,HB.out⟩
 | true=>
   have HV:=Lib.hid (show v=r from by rw [HFD.out,hp]; rfl)
   have HG1:=Lib.hid (HG.out w1 hb1)
   have HB:=Lib.hid hb1
   clear HP HG HFD hp hb1
   go_wp2_with fail
   refine HG1.out.mono ?_
   rintro e w2 ⟨rfl,hb2⟩
   have HB2:=Lib.hid (below_top HB.out hb2)
   clear hb2 HG1
   go_wp2_with fail
   go_ret
   exact⟨by rw [HV.out]; rfl,HB2.out⟩
theorem ksize_any (o:Nat) (ho:o<4294967296):Calls Tryz.prog 77 #[.pointer (some ⟨g,0,none⟩),.int .u32 o] w (Told (.int .i64 (h.sizK o:Nat)) w):=by
 have HH:=Lib.hid (L.header o ho)
 clear L
 unfold HM.sizK
 generalize h.isE o=E at *
 generalize h.hdO o=x at *
 obtain⟨sz,fm,sp,cl,se⟩:=x
 go_enter Tryz.func77,Tryz.ntmps77
 go_wp2_with fail
 refine HH.out.mono ?_
 rintro e w1 ⟨rfl,hb1⟩
 have HB:=Lib.hid (hb1.alloc hb1.size (.cells #[.int .i64 sz,.int .i64 fm,.int .i64 sp,.int .u32 cl,.int .u32 se] 137))
 clear HH hb1
 unfold Hd.val
 go_wp2_with fail
 go_ret
 exact⟨rfl,HB.out⟩
end
theorem sizK_lt {h:HM} (f:h.Fit) (o:Nat):h.sizK o<16777216:=by
 unfold HM.sizK HM.hdO
 split
 ·exact (h.hd_fit f (o / 2)).size
 ·decide
end
section
open Go.RowKit
attribute [local go_sem] Oper.semAt_some
theorem findIdx_is {α:Type} (P:α→Bool) (l:List α) {k:Nat} (hk:k<l.length) (h1:P l[k]=true) (h2:∀ j,(hj:j<k)→P (l[j]'(Nat.lt_trans hj hk))=false):l.findIdx P=k:=by
 rw [List.findIdx_eq hk]
 exact⟨h1,fun j hj=>h2 j hj⟩
theorem findIdx_no {α:Type} (P:α→Bool) (l:List α) (h2:∀ x∈l,P x=false):l.findIdx P=l.length:=by
 rw [List.findIdx_eq_length]
 exact h2
section
variable {W w:World} {p:HP} {g:Nat} {h:HM} (L:Live W w p g h)
include L
theorem kused_any (o:Nat) (ho:o<4294967296):Calls Tryz.prog 137 #[.pointer (some ⟨g,0,none⟩),.int .u32 o] w (Told (.int .i64 (h.usedK o:Nat)) w):=by
 have HR:=Lib.hid (kroot_any L 0)
 have HS:=Lib.hid (fun (w1:World) (hb:Below w.heap.size w w1)=>ksize_any (L.after hb) o ho)
 have HG:=Lib.hid (fun (w1:World) (hb:Below w.heap.size w w1) (i:Int)=>(L.after hb).get o ho i)
 have hr0:h.rootN 0=h.rt 0:=rootN_rt h (i:=0) (by omega)
 have hsz:=sizK_lt L.fit o
 have HU:=Lib.hid (show h.usedK o=(List.range (h.sizK o)).findIdx fun i:Nat=>decide (h.lookE o i [1,4]≠0) || decide (h.readN o i [1,4]=h.rt 0) from rfl)
 rw [hr0] at HR
 clear L hr0
 generalize h.rt 0=nil0 at *
 generalize h.sizK o=n at *
 generalize h.usedK o=U at *
 go_enter Tryz.func137,Tryz.ntmps137
 go_wp2_with fail
 refine HR.out.mono ?_
 rintro e w0 ⟨rfl,rfl⟩
 have HS0:=Lib.hid (HS.out w (Below.refl _ _))
 go_wp2_with fail
 refine HS0.out.mono ?_
 rintro e w1 ⟨rfl,hb1⟩
 have HB1:=Lib.hid hb1
 clear hb1 HS0 HR
 go_wp2_with fail
 go_loopw [14] (fun i wr=>∃ k:Nat,i = .int .i64 k∧k≤n∧(∀ j,j<k→(decide (h.lookE o (j:Nat) [1,4]≠0) || decide (h.readN o (j:Nat) [1,4]=nil0))=false)∧Below w.heap.size w wr) (fun i _=>n-(intOf i).toNat)
 case atStart=>exact⟨0,rfl,Nat.zero_le _,fun j hj=>absurd hj (by omega),HB1.out⟩
 case round=>
  obtain⟨k,rfl,hk,hne,hb⟩:=hrel
  by_cases hkn:k<n
  ·have hd:decide ((k:Int)<(n:Int))=true:=by simp; omega
   have HGK:=Lib.hid (HG.out wr hb (k:Int))
   have HNE:=Lib.hid hne
   have HB:=Lib.hid hb
   have HX:=Lib.hid (fun (c:(decide (h.lookE o (k:Nat) [1,4]≠0) || decide (h.readN o (k:Nat) [1,4]=nil0))=true)=>show U=k from by
    rw [HU.out]
    refine findIdx_is _ _ (k:=k) (by rw [List.length_range]; exact hkn) (by rw [List.getElem_range]; exact c) (fun j hj=>by rw [List.getElem_range]; exact hne j hj))
   clear hne hb
   by_cases hE:h.lookE o (k:Nat) [1,4]=0
   ·by_cases hv:h.readN o (k:Nat) [1,4]=nil0
    ·have HU2:=Lib.hid (HX.out (by rw [hv]; simp))
     rw [hE,hv] at HGK
     clear HX HNE hE hv
     go_wp2_with fail
     refine HGK.out.mono ?_
     rintro e w2 ⟨rfl,hb2⟩
     have HB2:=Lib.hid (below_top HB.out hb2)
     clear hb2
     go_wp2_with fail
     go_ret
     exact⟨by rw [HU2.out]; rfl,HB2.out⟩
    ·have HN2:=Lib.hid (show ∀ j,j<k+1→(decide (h.lookE o (j:Nat) [1,4]≠0) || decide (h.readN o (j:Nat) [1,4]=nil0))=false from fun j hj=>by
      rcases Nat.lt_or_ge j k with q | q
      ·exact HNE.out j q
      ·obtain rfl:j=k:=by omega
       rw [hE]; simp [hv])
     rw [hE] at HGK
     clear HX HNE hE
     generalize h.readN o (k:Nat) [1,4]=v at *
     have hq:((v:Int) == (nil0:Int))=false:=by simp; omega
     clear hv
     go_wp2_with fail
     refine HGK.out.mono ?_
     rintro e w2 ⟨rfl,hb2⟩
     have HB2:=Lib.hid (below_top HB.out hb2)
     clear hb2
     go_wp2_with fail
     go_roundw
     case rel=>exact⟨k+1,by go_num,by omega,HN2.out,HB2.out⟩
     case measure=>simp [intOf]; omega
   ·have HU2:=Lib.hid (HX.out (by simp [hE]))
    generalize h.lookE o (k:Nat) [1,4]=E at *
    have hq:((E:Int) != 0)=true:=by simp; omega
    clear HX HNE hE
    go_wp2_with fail
    refine HGK.out.mono ?_
    rintro e w2 ⟨rfl,hb2⟩
    have HB2:=Lib.hid (below_top HB.out hb2)
    clear hb2
    go_wp2_with fail
    go_ret
    exact⟨by rw [HU2.out]; rfl,HB2.out⟩
  ·obtain rfl:k=n:=by omega
   have hd:decide ((k:Int)<(k:Int))=false:=by simp
   have HU2:=Lib.hid (show U=k from by
    rw [HU.out,findIdx_no _ _ (fun x hx=>hne x (by simpa using hx)),List.length_range])
   have HSE:=Lib.hid (HS.out wr hb)
   have HB:=Lib.hid hb
   clear hne hb HU HG HS
   go_wp2_with fail
   refine HSE.out.mono ?_
   rintro e w2 ⟨rfl,hb2⟩
   have HB2:=Lib.hid (below_top HB.out hb2)
   clear hb2
   go_wp2_with fail
   go_ret
   exact⟨by rw [HU2.out]; rfl,HB2.out⟩
end
def bareL:List Nat:=[12,18,19,20,23]
theorem bareK_any (h:HM):h.bareK=bareL.any fun i=>decide (h.rt i%2=1):=by
 unfold HM.bareK bareL
 simp [Bool.or_assoc]
section
variable {W w:World} {p:HP} {g:Nat} {h:HM} (L:Live W w p g h)
include L
theorem kbare_any:Calls Tryz.prog 79 #[.pointer (some ⟨g,0,none⟩)] w (Told (.bool h.bareK) w):=by
 have HT:=Lib.hid L.top
 have h1:=L.fit.one
 have hb1:=(Below.refl w.heap.size w).alloc (Nat.le_refl _) (.cells #[.int .i64 12,.int .i64 18,.int .i64 19,.int .i64 20,.int .i64 23] 3)
 have HR:=Lib.hid (fun (w1:World) (hb:Below w.heap.size w w1) (i:Int)=>kroot_any (L.after hb) i)
 have HB1:=Lib.hid hb1
 have HBL:=Lib.hid (Blk.new w 3 #[.int .i64 12,.int .i64 18,.int .i64 19,.int .i64 20,.int .i64 23])
 have HRT:=Lib.hid (fun i=>L.fit.rtN i)
 have HBK:=Lib.hid (bareK_any h)
 have hwi:¬ ((h.words.length:Int)=0):=by omega
 have hw0:((h.words.length:Int) == 0)=false:=beq_eq_false_iff_ne.2 hwi
 clear L hb1 h1
 generalize h.bareK=B at *
 go_enter Tryz.func79,Tryz.ntmps79
 go_wp2_with fail
 refine HT.out.mono ?_
 rintro e w0 ⟨rfl,rfl⟩
 go_wp2_with fail
 clear hw0 hwi HT
 generalize w.alloc (.cells #[.int .i64 12,.int .i64 18,.int .i64 19,.int .i64 20,.int .i64 23] 3)=w1 at *
 go_loopw [10] (fun i wr=>∃ k:Nat,i = .int .i64 k∧k≤5∧(∀ j,j<k→decide (h.rt (bareL.getD j 0)%2=1)=false)∧wr=w1) (fun i _=>5-(intOf i).toNat)
 case atStart=>exact⟨0,rfl,Nat.zero_le _,fun j hj=>absurd hj (by omega),rfl⟩
 case round=>
  obtain⟨k,rfl,hk,hne,rfl⟩:=hrel
  by_cases hkn:k<5
  ·have hd:decide ((k:Int)<5)=true:=by simp; omega
   have hki:(k:Int)<5:=by omega
   have hc:wr.cell? ⟨w.heap.size,k,none⟩=some (.int .i64 ((bareL.getD k 0:Nat):Int)):=by
    rcases (by omega:k=0∨k=1∨k=2∨k=3∨k=4) with rfl | rfl | rfl | rfl | rfl
    ·exact HBL.out.cell 0
    ·exact HBL.out.cell 1
    ·exact HBL.out.cell 2
    ·exact HBL.out.cell 3
    ·exact HBL.out.cell 4
   have hl64:bareL.getD k 0<64:=by
    rcases (by omega:k=0∨k=1∨k=2∨k=3∨k=4) with rfl | rfl | rfl | rfl | rfl <;> decide
   have hmem:bareL.getD k 0∈bareL:=by
    rcases (by omega:k=0∨k=1∨k=2∨k=3∨k=4) with rfl | rfl | rfl | rfl | rfl <;> decide
   have HX:=Lib.hid (fun (c:decide (h.rt (bareL.getD k 0)%2=1)=true)=>show B=true from by
    rw [HBK.out,List.any_eq_true]
    exact⟨_,hmem,c⟩)
   have HNE:=Lib.hid hne
   have HRK:=Lib.hid (HR.out wr HB1.out ((bareL.getD k 0:Nat):Int))
   have hr:=HRT.out ((bareL.getD k 0:Nat):Int)
   rw [rootN_rt h hl64] at HRK hr
   have HKD:=Lib.hid (kind_any (h.rt (bareL.getD k 0)) hr wr)
   clear hne hmem hr
   by_cases ho:h.rt (bareL.getD k 0)%2=1
   ·have HB:=Lib.hid (HX.out (decide_eq_true ho))
    have hkd:kindM (h.rt (bareL.getD k 0))=1:=by unfold kindM; rw [if_neg (by omega),if_pos ho]
    rw [hkd] at HKD
    clear HX HNE ho hkd
    generalize h.rt (bareL.getD k 0)=r at *
    generalize bareL.getD k 0=i5 at *
    go_wp2_with fail
    refine HRK.out.mono ?_
    rintro e w2 ⟨rfl,rfl⟩
    go_wp2_with fail
    refine HKD.out.mono ?_
    rintro e w2 ⟨rfl,rfl⟩
    go_wp2_with fail
    go_ret
    exact⟨by rw [HB.out]; rfl,HB1.out⟩
   ·have HN2:=Lib.hid (show ∀ j,j<k+1→decide (h.rt (bareL.getD j 0)%2=1)=false from fun j hj=>by
     rcases Nat.lt_or_ge j k with q | q
     ·exact HNE.out j q
     ·obtain rfl:j=k:=by omega
      exact decide_eq_false ho)
    have hkd:kindM (h.rt (bareL.getD k 0))≠1:=by unfold kindM; split <;> (try split) <;> omega
    generalize kindM (h.rt (bareL.getD k 0))=kd at *
    have hq:((kd:Int) == 1)=false:=by simp; omega
    clear HX HNE ho hkd
    generalize h.rt (bareL.getD k 0)=r at *
    generalize bareL.getD k 0=i5 at *
    go_wp2_with fail
    refine HRK.out.mono ?_
    rintro e w2 ⟨rfl,rfl⟩
    go_wp2_with fail
    refine HKD.out.mono ?_
    rintro e w2 ⟨rfl,rfl⟩
    go_wp2_with fail
    go_roundw
    case rel=>exact⟨k+1,by go_num,by omega,HN2.out,trivial⟩
    case measure=>simp [intOf]; omega
  ·obtain rfl:k=5:=by omega
   have hd:decide ((5:Int)<5)=false:=by decide
   have HB:=Lib.hid (show B=false from by
    rw [HBK.out,List.any_eq_false]
    intro x hx
    obtain⟨j,hj,e⟩:=List.getElem_of_mem hx
    have:=hne j hj
    rw [List.getD_eq_getElem?_getD,List.getElem?_eq_getElem hj] at this
    simp only [Option.getD_some,e] at this
    simpa using this)
   clear hne HBK HRT HR
   go_wp2_with fail
   go_ret
   exact⟨by rw [HB.out]; rfl,HB1.out⟩
end
end
section
open Go.RowKit
attribute [local go_sem] Oper.semAt_some
def HM.lookK (h:HM) (c:Nat):Nat:=if h.bareK then 40 else if h.isB c=false then 3 else if h.ptrsK c 6=false then 40 else 0
section
variable {W w:World} {p:HP} {g:Nat} {h:HM} (L:Live W w p g h)
include L
theorem kshaped_any (c:Nat) (hc:c<4294967296):Calls Tryz.prog 117 #[.pointer (some ⟨g,0,none⟩),.int .u32 c] w (Told (.bool (h.ptrsK c 6)) w):=by
 have HP:=Lib.hid (kptrs_any L c hc 6 (by omega))
 clear L
 generalize h.ptrsK c 6=b at *
 go_enter Tryz.func117,Tryz.ntmps117
 go_wp2_with fail
 refine HP.out.mono ?_
 rintro e w1 ⟨rfl,hb1⟩
 have HB:=Lib.hid hb1
 clear hb1 HP
 go_wp2_with fail
 go_ret
 exact⟨rfl,HB.out⟩
theorem klook_any (c:Nat) (hc:c<4294967296):Calls Tryz.prog 73 #[.pointer (some ⟨g,0,none⟩),.int .u32 c] w (Told (.int .i64 (h.lookK c:Nat)) w):=by
 have HBR:=Lib.hid (kbare_any L)
 have HIS:=Lib.hid (fun (w1:World) (hb:Below w.heap.size w w1)=>(L.after hb).is c hc)
 have HSH:=Lib.hid (fun (w1:World) (hb:Below w.heap.size w w1)=>kshaped_any (L.after hb) c hc)
 have HV:=Lib.hid (show h.lookK c=if h.bareK then 40 else if h.isB c=false then 3 else if h.ptrsK c 6=false then 40 else 0 from rfl)
 clear L
 rw [HV.out]
 clear HV
 generalize h.bareK=b1 at *
 generalize h.isB c=b2 at *
 generalize h.ptrsK c 6=b3 at *
 cases b1 with
 | true=>
   go_enter Tryz.func73,Tryz.ntmps73
   go_wp2_with fail
   refine HBR.out.mono ?_
   rintro e w1 ⟨rfl,hb1⟩
   have HB1:=Lib.hid hb1
   have HI1:=Lib.hid (HIS.out w1 hb1)
   have HS1:=Lib.hid (HSH.out w1 hb1)
   clear hb1 HBR HIS HSH
   go_wp2_with fail
   go_ret
   exact⟨rfl,HB1.out⟩
 | false=>
   cases b2 with
   | false=>
     go_enter Tryz.func73,Tryz.ntmps73
     go_wp2_with fail
     refine HBR.out.mono ?_
     rintro e w1 ⟨rfl,hb1⟩
     have HB1:=Lib.hid hb1
     have HI1:=Lib.hid (HIS.out w1 hb1)
     have HS1:=Lib.hid (HSH.out w1 hb1)
     clear hb1 HBR HIS HSH
     go_wp2_with fail
     refine HI1.out.mono ?_
     rintro e w2 ⟨rfl,rfl⟩
     go_wp2_with fail
     go_ret
     exact⟨rfl,HB1.out⟩
   | true=>
     cases b3 with
     | false=>
       go_enter Tryz.func73,Tryz.ntmps73
       go_wp2_with fail
       refine HBR.out.mono ?_
       rintro e w1 ⟨rfl,hb1⟩
       have HB1:=Lib.hid hb1
       have HI1:=Lib.hid (HIS.out w1 hb1)
       have HS1:=Lib.hid (HSH.out w1 hb1)
       clear hb1 HBR HIS HSH
       go_wp2_with fail
       refine HI1.out.mono ?_
       rintro e w2 ⟨rfl,rfl⟩
       go_wp2_with fail
       refine HS1.out.mono ?_
       rintro e w3 ⟨rfl,hb3⟩
       have HB3:=Lib.hid (below_top HB1.out hb3)
       clear hb3 HS1 HI1 HB1
       go_wp2_with fail
       go_ret
       exact⟨rfl,HB3.out⟩
     | true=>
       go_enter Tryz.func73,Tryz.ntmps73
       go_wp2_with fail
       refine HBR.out.mono ?_
       rintro e w1 ⟨rfl,hb1⟩
       have HB1:=Lib.hid hb1
       have HI1:=Lib.hid (HIS.out w1 hb1)
       have HS1:=Lib.hid (HSH.out w1 hb1)
       clear hb1 HBR HIS HSH
       go_wp2_with fail
       refine HI1.out.mono ?_
       rintro e w2 ⟨rfl,rfl⟩
       go_wp2_with fail
       refine HS1.out.mono ?_
       rintro e w3 ⟨rfl,hb3⟩
       have HB3:=Lib.hid (below_top HB1.out hb3)
       clear hb3 HS1 HI1 HB1
       go_wp2_with fail
       go_ret
       exact⟨rfl,HB3.out⟩
end
end
section
open Go.RowKit
theorem bytes4_atK (x r:Nat) (hr:r<4):(bytes4 x)[r]? = some (byteOf x r):=by
 rcases (by omega:r=0∨r=1∨r=2∨r=3) with rfl | rfl | rfl | rfl <;> simp [bytes4,byteOf]
theorem bytesM_atK (ys:List Nat):∀ i,i<4*ys.length→(bytesM ys)[i]? = some (byteOf (ys.getD (i / 4) 0) (i%4)):=by
 induction ys with
 | nil=>intro i hi; simp at hi
 | cons y ys ih=>
   intro i hi
   rw [bytesM_cons]
   have hl:(bytes4 y).length=4:=rfl
   rcases Nat.lt_or_ge i 4 with h | h
   ·rw [List.getElem?_append_left (by omega),bytes4_atK y i h,Nat.div_eq_of_lt h,Nat.mod_eq_of_lt h]
    rfl
   ·rw [List.getElem?_append_right (by omega),hl,ih (i-4) (by simp at hi; omega)]
    have e1:i / 4=(i-4) / 4+1:=by omega
    have e2:i%4=(i-4)%4:=by omega
    rw [e1,e2,List.getD_cons_succ]
theorem bytesM_take_mapK (ys:List Nat) (n:Nat) (hn:n≤4*ys.length) (f:Nat→Nat) (hf:∀ i,i<n→f i=byteOf (ys.getD (i / 4) 0) (i%4)):(bytesM ys).take n=(List.range n).map f:=by
 apply List.ext_getElem?
 intro i
 rcases Nat.lt_or_ge i n with h | h
 ·rw [List.getElem?_take,if_pos h,bytesM_atK ys i (by omega),List.getElem?_map,List.getElem?_range h]
  simp [hf i h]
 ·rw [List.getElem?_eq_none (by simp; omega),List.getElem?_eq_none (by simp; omega)]
theorem good_body {h:HM} {l:List Ob} (G:h.Good l) {o:Nat} (hi:h.isB o=true) (hf:(h.hd (o / 2)).fmt=2):h.bytesE o=0∧(bytesM (h.fields o)).take (h.hd (o / 2)).len=h.bodyK o∧h.lenN o=(h.hd (o / 2)).len:=by
 have hn:h.lenN o=(h.hd (o / 2)).len:=by unfold HM.lenN; rw [if_pos hi]
 unfold HM.bodyK
 rw [hn]
 unfold HM.bytesE
 rw [if_neg (by rw [hi]; decide),if_pos hf]
 obtain⟨a,b,c,rfl,rfl⟩:=(G.laid.isB_iff o).1 hi
 have L:=G.laid
 rw [half_pos,L.hd_at] at hf ⊢
 rw [L.fields_at]
 have K:=L.ok_at
 rw [G.sound.spare b (by simp) hf]
 refine⟨rfl,?_,rfl⟩
 have hlen:b.x.len=4*b.x.size-b.x.spare:=by unfold Hd.len; rw [if_pos hf]
 have hsz:=K.size
 refine bytesM_take_mapK b.fs b.x.len (by omega) _ (fun i hi'=>?_)
 have he:h.lookE (2*posOf a) (i:Int) [2]=0:=by
  unfold HM.lookE
  rw [half_pos,L.hd_at,if_neg (by rw [hi]; decide),hf,if_neg (by decide),if_neg (by omega)]
 unfold HM.byteN
 rw [if_pos he]
 unfold fb
 rw [Int.toNat_natCast,L.f_at (i / 4) (by omega)]
theorem body_lt (h:HM) (o:Nat):∀ x∈h.bodyK o,x<256:=by
 intro x hx
 unfold HM.bodyK at hx
 obtain⟨i,_,rfl⟩:=List.mem_map.1 hx
 exact h.byteN_lt o i
theorem body_len (h:HM) (o:Nat):(h.bodyK o).length=h.lenN o:=by unfold HM.bodyK; rw [List.length_map,List.length_range]
theorem lenN_lt {h:HM} (f:h.Fit) (o:Nat):h.lenN o≤67108864:=by
 unfold HM.lenN
 split
 ·have:=(h.hd_fit f (o / 2)).size
  unfold Hd.len
  split <;> omega
 ·omega
end
section
open Go.RowKit
section
variable {r:Nat→Nat} {z n k:Nat} {P:Nat→Bool}
theorem tw_split (hne:∀ j,j<k→r j≠z) (hk:k≤n):((List.range n).map r).takeWhile (· ≠z)=((List.range k).map r)++(((List.range n).map r).drop k).takeWhile (· ≠z):=by
 have e:(List.range n).map r=((List.range k).map r)++((List.range n).map r).drop k:=by
  rw [← List.map_drop,← List.map_append]
  congr 1
  have:=List.take_append_drop k (List.range n)
  rw [List.take_range,Nat.min_eq_left hk] at this
  exact this.symm
 conv=>lhs; rw [e]
 rw [List.takeWhile_append_of_pos]
 intro a ha
 obtain⟨j,hj,rfl⟩:=List.mem_map.1 ha
 simpa using hne j (by simpa using hj)
theorem find_none_of (hne:∀ j,j<k→P (r j)=false):((List.range k).map r).find? P=none:=by
 rw [List.find?_eq_none]
 intro a ha
 obtain⟨j,hj,rfl⟩:=List.mem_map.1 ha
 simp [hne j (by simpa using hj)]
theorem drop_at (hk:k<n):((List.range n).map r).drop k=r k :: ((List.range n).map r).drop (k+1):=by
 rw [List.drop_eq_getElem_cons (by simpa using hk)]
 simp
theorem tw_find (hne:∀ j,j<k→r j≠z∧P (r j)=false) (hk:k<n) (h1:r k≠z) (h2:P (r k)=true):(((List.range n).map r).takeWhile (· ≠z)).find? P=some (r k):=by
 rw [tw_split (fun j hj=>(hne j hj).1) (Nat.le_of_lt hk),List.find?_append,find_none_of (fun j hj=>(hne j hj).2),drop_at hk,List.takeWhile_cons_of_pos (by simpa using h1),List.find?_cons_of_pos h2]
 rfl
theorem tw_none (hne:∀ j,j<k→r j≠z∧P (r j)=false) (hk:k≤n) (h1:k=n∨r k=z):(((List.range n).map r).takeWhile (· ≠z)).find? P=none:=by
 rw [tw_split (fun j hj=>(hne j hj).1) hk,List.find?_append,find_none_of (fun j hj=>(hne j hj).2)]
 have:((((List.range n).map r).drop k).takeWhile (· ≠z))=[]:=by
  rcases h1 with rfl | h1
  ·rw [List.drop_of_length_le (by simp)]; rfl
  ·rcases Nat.lt_or_ge k n with h | h
   ·rw [drop_at h,List.takeWhile_cons_of_neg (by simp [h1])]
   ·rw [List.drop_of_length_le (by simpa using h)]; rfl
 rw [this]
 rfl
theorem tw_len (hne:∀ j,j<k→r j≠z) (hk:k≤n) (h1:k=n∨r k=z):(((List.range n).map r).takeWhile (· ≠z)).length=k:=by
 rw [tw_split hne hk]
 have:((((List.range n).map r).drop k).takeWhile (· ≠z))=[]:=by
  rcases h1 with rfl | h1
  ·rw [List.drop_of_length_le (by simp)]; rfl
  ·rcases Nat.lt_or_ge k n with h | h
   ·rw [drop_at h,List.takeWhile_cons_of_neg (by simp [h1])]
   ·rw [List.drop_of_length_le (by simpa using h)]; rfl
 rw [this,List.append_nil,List.length_map,List.length_range]
end
theorem sizK_of {h:HM} {o n:Nat} (hp:h.ptrsK o n=true):h.isB o=true∧(h.hd (o / 2)).fmt=1∧n≤(h.hd (o / 2)).size∧h.sizK o=(h.hd (o / 2)).size:=by
 unfold HM.ptrsK at hp
 simp only [Bool.and_eq_true,decide_eq_true_eq] at hp
 refine⟨hp.1,hp.2.1,hp.2.2,?_⟩
 unfold HM.sizK HM.hdO
 rw [if_pos hp.1]
theorem look_ptrs {h:HM} {o:Nat} (hp:h.ptrsK o 0=true) {j:Nat} (hj:j<h.sizK o):h.lookE o (j:Nat) [1,4]=0:=by
 obtain⟨h1,h2,_,h4⟩:=sizK_of hp
 have hl:(h.hd (o / 2)).len=(h.hd (o / 2)).size:=by unfold Hd.len; rw [if_neg (by omega)]
 unfold HM.lookE
 rw [h1,h2,hl,if_neg (by simp),if_neg (by decide),if_neg (by omega)]
def FndP (h:HM) (o:Nat) (P:Nat→Bool) (i:Int):Prop:=
 (i = -1∧(h.entK o).find? P=none)∨∃ k:Nat,i=k∧(h.entK o).find? P=some (h.readN o (k:Nat) [1,4])∧k<h.sizK o∧h.ptrsK o 0=true
theorem FndP.sym {h:HM} {o:Nat} {P:Nat→Bool} {i:Int} (F:FndP h o P i):((h.entK o).find? P).getD 0=(if i<0 then 0 else h.fldK o i.toNat):=by
 rcases F with ⟨rfl,e⟩ | ⟨k,rfl,e,hk,hp⟩
 ·rw [e]; rfl
 ·rw [e,if_neg (by omega)]
  unfold HM.fldK
  rw [if_pos hp]
  rfl
end
section
open Go.RowKit
section
variable {h h':HM} {l:List Ob}
theorem pos_take (l:List Ob) {j k:Nat} (h:j≤k):posOf (l.take j)≤posOf (l.take k):=by
 have e:l.take j=(l.take k).take j:=by rw [List.take_take,Nat.min_eq_left h]
 have e2:wsOf (l.take k)=wsOf ((l.take k).take j)++wsOf ((l.take k).drop j):=by rw [← wsOf_app,List.take_append_drop]
 unfold posOf
 rw [e2,e,List.length_append]
 omega
theorem HM.Laid.apart (L:h.Laid l) {o x:Nat} (h1:h.isB o=true) (h2:h.isB x=true) (hlt:o / 2<x / 2):o / 2+3+(h.hd (o / 2)).size≤x / 2:=by
 obtain⟨a,b,c,rfl,rfl⟩:=(L.isB_iff o).1 h1
 obtain⟨a',b',c',e,rfl⟩:=(L.isB_iff x).1 h2
 rw [half_pos] at hlt ⊢
 rw [half_pos] at hlt ⊢
 rw [L.hd_at]
 have ha:a=(a++b :: c).take a.length:=by simp
 have ha':a'=(a++b :: c).take a'.length:=by rw [e]; simp
 have hab:a++[b]=(a++b :: c).take (a.length+1):=by rw [show a++b :: c=(a++[b])++c by simp,show a.length+1=(a++[b]).length by simp,List.take_left]
 have hl:a.length<a'.length:=by
  rcases Nat.lt_or_ge a.length a'.length with h | h
  ·exact h
  ·have h3:=pos_take (a++b :: c) h
   rw [← ha,← ha'] at h3
   omega
 have h3:=pos_take (a++b :: c) (show a.length+1≤a'.length from hl)
 rw [← hab,← ha'] at h3
 have h4:posOf (a++[b])=posOf a+3+b.fs.length:=by
  unfold posOf
  rw [wsOf_app,List.length_append,wsOf_cons,wsOf_nil,List.append_nil,Ob.ws_len]
  omega
 have h5:b.x.size=b.fs.length:=L.ok_at.size
 omega
theorem HM.Good.fits (G:h.Good l) {x:Nat} (hb:h.isB x=true):x / 2+3+(h.hd (x / 2)).size≤h.words.length∧1≤x / 2:=by
 have h1:=(G.laid.heads (x / 2) (by unfold HM.isB at hb; simp only [Bool.and_eq_true] at hb; exact hb.2)).1
 obtain⟨a,b,c,rfl,rfl⟩:=(G.laid.isB_iff x).1 hb
 refine⟨h1,?_⟩
 rw [half_pos]
 unfold posOf
 omega
theorem isB_half {o x:Nat} (h1:h.isB o=true) (h2:h.isB x=true) (e:o / 2=x / 2):o=x:=by
 unfold HM.isB at h1 h2
 simp only [Bool.and_eq_true] at h1 h2
 have e1:=(objB_iff o).1 h1.1
 have e2:=(objB_iff x).1 h2.1
 omega
theorem HM.Good.far (G:h.Good l) {o x k j:Nat} (h1:h.isB o=true) (h2:h.isB x=true) (hk:k<(h.hd (o / 2)).size) (hj:j<(h.hd (x / 2)).size) (hne:o≠x∨k≠j):o / 2+3+k≠x / 2+3+j:=by
 rcases Nat.lt_trichotomy (o / 2) (x / 2) with h | h | h
 ·have:=G.laid.apart h1 h2 h; omega
 ·have:=isB_half h1 h2 h
  rcases hne with h3 | h3
  ·exact absurd this h3
  ·omega
 ·have:=G.laid.apart h2 h1 h; omega
theorem HM.Good.farh (G:h.Good l) {o x k j:Nat} (h1:h.isB o=true) (h2:h.isB x=true) (hk:k<(h.hd (o / 2)).size) (hj:j<3):o / 2+3+k≠x / 2+j:=by
 rcases Nat.lt_trichotomy (o / 2) (x / 2) with h | h | h
 ·have:=G.laid.apart h1 h2 h; omega
 ·omega
 ·have:=G.laid.apart h2 h1 h; omega
theorem put_parts {o v:Nat} {i:Int} (h0:h.putE o i v=0):h.isB o=true∧((h.hd (o / 2)).fmt=1∨(h.hd (o / 2)).fmt=4)∧0≤i∧i<((h.hd (o / 2)).size:Nat)∧h.valB v=true∧h.putH o i v=h.setF o i.toNat v:=by
 have hH:h.putH o i v=h.setF o i.toNat v:=by unfold HM.putH; rw [if_pos h0]
 unfold HM.putE at h0
 split at h0
 ·rename_i hk
  split at h0
  ·rename_i hv
   obtain⟨h1,h2,h3,h4⟩:=HM.look_ok hk
   have hf:(h.hd (o / 2)).fmt=1∨(h.hd (o / 2)).fmt=4:=by simpa using h2
   refine⟨h1,hf,h3,?_,hv,hH⟩
   unfold Hd.len at h4
   rw [if_neg (by omega)] at h4
   exact h4
  ·omega
 ·omega
end
end
end Go.Proofs.YtdoahpflemgaeaaGreatDoor
