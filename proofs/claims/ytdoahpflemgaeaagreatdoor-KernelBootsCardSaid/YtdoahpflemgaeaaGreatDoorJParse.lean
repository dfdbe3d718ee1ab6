import Derived.Test.YtdoahpflemgaeaaGreatDoorJMake
import Derived.Test.YtdoahpflemgaeaaGreatDoorJMay
import Derived.Test.YtdoahpflemgaeaaGreatDoorJLook
import Derived.Test.YtdoahpflemgaeaaGreatDoorJMapIs
import Derived.WalkMore
import Derived.Deep.DeepCutAuto
import Derived.BigQuiet
import Derived.IntWalk
import Derived.Deep.QuietTactic
set_option linter.unusedVariables false
set_option linter.unusedSectionVars false
namespace Go.Proofs.YtdoahpflemgaeaaGreatDoor
section
open Go.RowKit
def parseF:Nat→List Nat→Option (List Ob)
 | 0,_=>none
 | _+1,[]=>some []
 | f+1,a :: b :: c :: r=>if okhd a b c && decide ((unhd a b c).size≤r.length) then (parseF f (r.drop (unhd a b c).size)).map (⟨unhd a b c,r.take (unhd a b c).size⟩ :: ·) else none
 | _+1,_=>none
def parseT (ws:List Nat):Option (List Ob):=parseF (ws.length+1) ws
def parseW:List Nat→Option (List Ob)
 | 0 :: r=>parseT r
 | _=>none
theorem parseF_fuel:∀ (f g:Nat) (ws:List Nat),ws.length<f→ws.length<g→parseF f ws=parseF g ws
 | 0,_,_,h,_=>absurd h (by omega)
 | _,0,_,_,h=>absurd h (by omega)
 | f+1,g+1,[],_,_=>rfl
 | f+1,g+1,[_],_,_=>rfl
 | f+1,g+1,[_,_],_,_=>rfl
 | f+1,g+1,a :: b :: c :: r,h1,h2=>by
   unfold parseF
   split
   ·rw [parseF_fuel f g _ (by simp at h1 ⊢; omega) (by simp at h2 ⊢; omega)]
   ·rfl
theorem parseT_nil:parseT []=some []:=rfl
theorem parseT_short {ws:List Nat} (h0:ws≠[]) (h3:ws.length<3):parseT ws=none:=by
 match ws,h0,h3 with
 | [_],_,_=>rfl
 | [_,_],_,_=>rfl
 | _ :: _ :: _ :: _,_,h=>simp at h; omega
theorem parseT_bad {a b c:Nat} {r:List Nat} (h:okhd a b c=false):parseT (a :: b :: c :: r)=none:=by
 unfold parseT
 unfold parseF
 rw [h,Bool.false_and,if_neg (by decide)]
theorem parseT_long {a b c:Nat} {r:List Nat} (h:r.length<(unhd a b c).size):parseT (a :: b :: c :: r)=none:=by
 unfold parseT
 unfold parseF
 rw [decide_eq_false (by omega),Bool.and_false,if_neg (by decide)]
theorem parseT_ok {a b c:Nat} {r:List Nat} (h:okhd a b c=true) (hs:(unhd a b c).size≤r.length):
 parseT (a :: b :: c :: r)=(parseT (r.drop (unhd a b c).size)).map (⟨unhd a b c,r.take (unhd a b c).size⟩ :: ·):=by
 unfold parseT
 conv=>lhs; unfold parseF
 rw [h,decide_eq_true hs,Bool.true_and,if_pos rfl,parseF_fuel _ ((r.drop (unhd a b c).size).length+1) _ (by simp; omega) (by omega)]
theorem Ob.ok_of {a b c:Nat} {r:List Nat} (h:okhd a b c=true) (hs:(unhd a b c).size≤r.length) (hb:b<4294967296) (hc:c<4294967296) (hr:∀ x∈r,x<4294967296):
 Ob.Ok ⟨unhd a b c,r.take (unhd a b c).size⟩:=by
 unfold okhd at h
 rw [Bool.and_eq_true] at h
 exact⟨⟨Nat.mod_lt _ (by omega),Nat.mod_lt _ (by omega),Nat.mod_lt _ (by omega),hb,hc⟩,h.1,by rw [List.length_take]; show (unhd a b c).size=_; omega,fun f hf=>hr f (List.mem_of_mem_take hf)⟩
theorem okhd_w0 {a b c:Nat} (h:okhd a b c=true):(unhd a b c).w0=a:=by
 unfold okhd at h
 simp only [Bool.and_eq_true,decide_eq_true_eq] at h
 have h2:=h.2
 unfold Hd.w0 unhd
 show a%16777216+a / 16777216%8*16777216+a / 134217728%4*134217728=a
 omega
theorem ws_of_parse {a b c:Nat} {r:List Nat} (h:okhd a b c=true):(Ob.ws ⟨unhd a b c,r.take (unhd a b c).size⟩)++r.drop (unhd a b c).size=a :: b :: c :: r:=by
 unfold Ob.ws
 show (unhd a b c).w0 :: b :: c :: r.take _++r.drop _=_
 rw [okhd_w0 h]
 simp
theorem okhd_ob {b:Ob} (k:b.Ok):okhd b.x.w0 b.x.cls b.x.ser=true:=by
 unfold okhd
 rw [unhd_ob k,k.may]
 exact (Bool.true_and _).trans (decide_eq_true (w0_lt k.fit))
theorem parseT_ob {b:Ob} (k:b.Ok) (r:List Nat):parseT (b.ws++r)=(parseT r).map (b :: ·):=by
 unfold Ob.ws
 rw [List.cons_append,List.cons_append,List.cons_append,parseT_ok (okhd_ob k) (by rw [unhd_ob k,k.size]; simp),unhd_ob k,k.size,List.drop_left,List.take_left]
theorem parseT_obs {l:List Ob} (k:∀ b∈l,b.Ok) (r:List Nat):parseT (wsOf l++r)=(parseT r).map (l ++ ·):=by
 induction l with
 | nil=>cases h:parseT r <;> simp [wsOf_nil,h]
 | cons b l ih=>
   rw [wsOf_cons,List.append_assoc,parseT_ob (k b (by simp)),ih (fun b hb=>k b (List.mem_cons_of_mem _ hb)),Option.map_map]
   rfl
theorem parseW_obs {l:List Ob} (k:∀ b∈l,b.Ok):parseW (0 :: wsOf l)=some l:=by
 have:=parseT_obs k []
 rw [List.append_nil,parseT_nil] at this
 show parseT (wsOf l)=_
 rw [this]
 simp
theorem parseF_inv:∀ (f:Nat) (ws:List Nat) (l:List Ob),(∀ x∈ws,x<4294967296)→parseF f ws=some l→ws=wsOf l∧∀ b∈l,b.Ok
 | 0,_,_,_,h=>by cases h
 | f+1,[],l,_,h=>by cases h; exact⟨rfl,fun _ hb=>by cases hb⟩
 | f+1,[_],l,_,h=>by cases h
 | f+1,[_,_],l,_,h=>by cases h
 | f + 1,a :: b :: c :: r,l,h32,h=>by
   unfold parseF at h
   split at h
   ·rename_i hc
    rw [Bool.and_eq_true,decide_eq_true_eq] at hc
    rw [Option.map_eq_some_iff] at h
    obtain⟨l',h1,rfl⟩:=h
    obtain⟨e,k⟩:=parseF_inv f _ l' (fun x hx=>h32 x (by have:=List.mem_of_mem_drop hx; simp [this])) h1
    refine⟨?_,?_⟩
    ·rw [wsOf_cons,← e]
     exact (ws_of_parse hc.1).symm
    ·intro o ho
     rcases List.mem_cons.1 ho with rfl | ho
     ·exact Ob.ok_of hc.1 hc.2 (h32 b (by simp)) (h32 c (by simp)) (fun x hx=>h32 x (by simp [hx]))
     ·exact k o ho
   ·cases h
theorem parseW_inv {ws:List Nat} {l:List Ob} (h32:∀ x∈ws,x<4294967296) (h:parseW ws=some l):ws=0 :: wsOf l∧∀ b∈l,b.Ok:=by
 unfold parseW at h
 split at h
 ·rename_i r
  obtain⟨e,k⟩:=parseF_inv _ _ _ (fun x hx=>h32 x (List.mem_cons_of_mem _ hx)) h
  exact⟨by rw [← e],k⟩
 ·cases h
def HM.ofWords (size:Nat) (words roots:List Nat) (last:Nat):HM:=⟨size,words,false :: msOf ((parseW words).getD []),roots,last⟩
def LoadOk (size:Nat) (words roots:List Nat) (last:Nat):Prop:=∃ l,parseW words=some l∧(HM.ofWords size words roots last).Sound l
theorem HM.ofWords_good {size:Nat} {words roots:List Nat} {last:Nat} {l:List Ob} (h1:64≤size) (h2:size≤1048576) (hw:∀ x∈words,x<4294967296) (hr:∀ x∈roots,x<4294967296) (hrl:roots.length=64)
 (hl:last<4294967296) (hs:words.length≤size) (hp:parseW words=some l) (S:(HM.ofWords size words roots last).Sound l):(HM.ofWords size words roots last).Good l:=by
 obtain⟨e,k⟩:=parseW_inv hw hp
 have e2:(HM.ofWords size words roots last).starts=false :: msOf l:=by show false :: msOf ((parseW words).getD [])=_; rw [hp]; rfl
 refine⟨⟨h1,h2,?_,hs,?_,hrl,hw,hr,hl⟩,⟨e,e2,k⟩,S⟩
 ·show 1≤words.length
  rw [e]; simp
 ·rw [e2]
  show _=words.length
  rw [e]; simp [msOf_len]
theorem HM.Good.ofWords {h:HM} {l:List Ob} (G:h.Good l):HM.ofWords h.size h.words h.roots h.last=h∧parseW h.words=some l:=by
 have hp:parseW h.words=some l:=by rw [G.laid.words]; exact parseW_obs G.laid.ok
 refine⟨?_,hp⟩
 unfold HM.ofWords
 rw [hp]
 show HM.mk h.size h.words (false :: msOf l) h.roots h.last=h
 rw [← G.laid.marks]
theorem HM.Good.loadOk {h:HM} {l:List Ob} (G:h.Good l):LoadOk h.size h.words h.roots h.last:=by
 obtain⟨e,hp⟩:=G.ofWords
 exact⟨l,hp,by rw [e]; exact G.sound⟩
structure Pre (ws:List Nat) (l:List Ob) (r:List Nat):Prop where
 eq:ws=0 :: (wsOf l++r)
 ok:∀ b∈l,b.Ok
theorem Pre.parse {ws r:List Nat} {l:List Ob} (p:Pre ws l r):parseW ws=(parseT r).map (l ++ ·):=by rw [p.eq]; exact parseT_obs p.ok r
theorem Pre.len {ws r:List Nat} {l:List Ob} (p:Pre ws l r):ws.length=posOf l+r.length:=by rw [p.eq]; simp [posOf]; omega
theorem Pre.get {ws r:List Nat} {l:List Ob} (p:Pre ws l r) (j:Nat):ws.getD (posOf l+j) 0=r.getD j 0:=by
 rw [p.eq]
 unfold posOf
 rw [Nat.add_assoc,Nat.add_comm 1,List.getD_cons_succ,getD_app_right]
theorem Pre.next {ws r:List Nat} {l:List Ob} {a b c:Nat} (p:Pre ws l (a :: b :: c :: r)) (h32:∀ x∈ws,x<4294967296) (h:okhd a b c=true) (hs:(unhd a b c).size≤r.length):
 Pre ws (l++[⟨unhd a b c,r.take (unhd a b c).size⟩]) (r.drop (unhd a b c).size):=by
 have hm:∀ x∈a :: b :: c :: r,x<4294967296:=fun x hx=>h32 x (by rw [p.eq]; simp at hx ⊢; right; right; exact hx)
 refine⟨?_,fun o ho=>?_⟩
 ·rw [p.eq,wsOf_app,wsOf_cons,wsOf_nil,List.append_nil,List.append_assoc,ws_of_parse h]
 ·rcases List.mem_append.1 ho with ho | ho
  ·exact p.ok o ho
  ·simp only [List.mem_cons,List.not_mem_nil,or_false] at ho
   subst ho
   exact Ob.ok_of h hs (hm b (by simp)) (hm c (by simp)) (fun x hx=>hm x (by simp [hx]))
theorem Pre.start {r:List Nat}:Pre (0 :: r) [] r:=⟨by simp [wsOf_nil],fun _ h=>by cases h⟩
end
section
open Go.RowKit
def LaidP (p:HP) (h:HM) (w:World) (e:Ending) (w':World):Prop:=
 ∃ b:Bool,e = .returned (.bool b)∧Step p p w w'∧(b=false→parseW h.words=none)∧(b=true→∃ l,parseW h.words=some l∧HAt w' p { h with starts:=false :: msOf l })
def LaidMid (p:HP) (h:HM) (w:World) (k:Nat) (wr:World):Prop:=
 Step p p w wr∧((∃ l r,Pre h.words l r∧k=posOf l∧HAt wr p { h with starts:=(false :: msOf l)++List.replicate r.length false })∨
  (h.words.length<k∧parseW h.words=none∧∃ st,st.length=h.starts.length∧HAt wr p { h with starts:=st }))
theorem Pre.none {ws r:List Nat} {l:List Ob} (p:Pre ws l r) (h:parseT r=none):parseW ws=none:=by rw [p.parse,h]; rfl
theorem Pre.done {ws:List Nat} {l:List Ob} (p:Pre ws l []):parseW ws=some l:=by rw [p.parse,parseT_nil]; simp
theorem marks_set (l:List Ob) (o:Ob) (n m:Nat) (hn:n=3+o.fs.length+m):
 ((false :: msOf l)++List.replicate n false).set (posOf l) true=(false :: msOf (l++[o]))++List.replicate m false:=by
 subst hn
 have hp:posOf l=(false :: msOf l).length:=by simp [posOf,msOf_len]; omega
 rw [hp,List.set_append_right _ _ (Nat.le_refl _),Nat.sub_self,show 3+o.fs.length+m=(2+o.fs.length+m)+1 by omega,List.replicate_succ,List.set_cons_zero,msOf_app,msOf_cons]
 have e:List.replicate (2+o.fs.length+m) false=List.replicate (2+o.fs.length) false++List.replicate m false:=by rw [List.replicate_append_replicate]
 rw [e]
 simp [Ob.ms,msOf]
set_option maxRecDepth 100000 in
set_option maxHeartbeats 2000000 in
theorem laid_any {w:World} {p:HP} {h:HM} (H:HAt w p h) (f:h.Fit) (hs:Spares w) (hfar:Far p) (hst:h.starts=List.replicate h.words.length false):
 Calls Tryz.prog 146 #[ptr p.g] w (LaidP p h w):=by
 have c0:=H.c0
 have q0:w.cell? ⟨p.gw,0,none⟩=some (.int .u32 (h.words.getD 0 0:Nat)):=H.word f.one
 have hone:=f.one
 have hcap:h.words.length≤p.cw:=by have:=H.2.1; obtain⟨_,_,h1,_⟩:=this; simpa [u32s] using h1
 have hcm:p.cw≤9223372036854775807:=by have:=H.2.1; obtain⟨_,_,_,h1,_⟩:=this; unfold maxLen at h1; exact h1
 have hhi:=f.hi
 have hroom:=f.room
 have HF:=Lib.hid f
 have HS:=Lib.hid hs
 have HFAR:=Lib.hid hfar
 have har:∀ (a:Addr) (c:Nat) (w:World),(Instr.arrayAt 170 (.slice (some a) 3 c)).run Tryz.prog w = .ok (.pointer (some a)) w:=fun a c w=>by
  have ht:Tryz.prog.underlying 170=some (.array 3 37):=Tryz.underlying170
  simp [Instr.arrayAt,run_underlying ht]
 unfold ptr
 by_cases h0:h.words.getD 0 0=0
 ·obtain ⟨r0,hr0⟩ :∃ r0,h.words=0 :: r0:=by
   cases hw:h.words with
   | nil=>rw [hw] at hone; simp at hone
   | cons a r=>rw [hw] at h0; simp at h0; exact⟨r,by rw [h0]⟩
  rw [h0] at q0
  have HM0:=Lib.hid (show LaidMid p h w 1 w from⟨Step.refl _ _,.inl ⟨[],r0,by rw [hr0]; exact Pre.start,rfl,by
   have e:(false :: msOf [])++List.replicate r0.length false=h.starts:=by rw [hst,hr0]; simp [msOf,List.replicate_succ]
   rw [e]; exact H⟩⟩)
  have HH:=Lib.hid H
  have HST:=Lib.hid hst
  clear H f hs hfar hst hr0 h0
  go_enter Tryz.func146,Tryz.ntmps146
  go_wp2_with fail
  go_step3
  go_wp2_with fail
  go_step3
  go_wp2_with fail
  go_loopw [3,4,5] (fun i _ _ wr=>∃ k:Nat,i = .int .i64 k∧k≤20000000∧LaidMid p h w k wr) (fun i _ _ _=>h.words.length-(intOf i).toNat)
  case atStart=>exact⟨1,rfl,by omega,HM0.out⟩
  case round=>
   clear q0 c0
   obtain⟨k,rfl,hk20,hst1,hmid⟩:=hrel
   rcases hmid with ⟨l,r,hp,rfl,Hr⟩ | ⟨hlong,hnone,st,hsl,Hr⟩
   ·have c0:=Hr.c0
    have hlen:=hp.len
    have h32:=HF.out.w32
    by_cases hr0:r=[]
    ·subst hr0
     have HD:=Lib.hid hp.done
     have HX:=Lib.hid (show HAt wr p { h with starts:=false :: msOf l } by
      have e:(false :: msOf l)++List.replicate ([]:List Nat).length false=false :: msOf l:=by simp
      rw [e] at Hr; exact Hr)
     simp only [List.length_nil,Nat.add_zero] at hlen
     rw [← hlen] at *
     have hdec:decide (h.words.length<h.words.length)=false:=by simp
     have hdec2:((h.words.length:Int) == (h.words.length:Int))=true:=by simp
     clear hp Hr h32
     go_wp2_with fail
     go_ret
     exact⟨true,rfl,hst1,(fun e=>by cases e),fun _=>⟨l,HD.out,HX.out⟩⟩
    ·by_cases hr3:r.length<3
     ·have HN:=Lib.hid (hp.none (parseT_short hr0 hr3))
      have hpos:0<r.length:=List.length_pos_iff.2 hr0
      clear hp hr0 h32
      generalize posOf l=k at *
      generalize r.length=m at *
      have hdec:decide (k<h.words.length)=true:=by simp; omega
      have hdec1:((h.words.length:Nat):Int)<(k:Int)+3:=by omega
      have hdec2:((k:Int) == (h.words.length:Int))=false:=by simp; omega
      clear Hr hlen
      go_wp2_with fail
      go_ret
      exact⟨false,rfl,hst1,fun _=>HN.out,fun e=>by cases e⟩
     ·obtain⟨a,b,c,r',rfl⟩ :∃ a b c r',r=a :: b :: c :: r':=by
       match r,hr3 with
       | a :: b :: c :: r',_=>exact⟨a,b,c,r',rfl⟩
       | [],h=>simp at h
       | [_],h=>simp at h
       | [_,_],h=>simp at h
      have hm:∀ x∈a :: b :: c :: r',x<4294967296:=fun x hx=>h32 x (by rw [hp.eq]; simp at hx ⊢; right; right; exact hx)
      have ba:=hm a (by simp)
      have bb:=hm b (by simp)
      have bc:=hm c (by simp)
      have g0:=hp.get 0
      have g1:=hp.get 1
      have g2:=hp.get 2
      simp only [Nat.add_zero,List.getD_cons_zero,List.getD_cons_succ] at g0 g1 g2
      have q0:=Hr.word (i:=posOf l) (by show posOf l<h.words.length; simp at hlen; omega)
      have q1:=Hr.word (i:=posOf l+1) (by show posOf l+1<h.words.length; simp at hlen; omega)
      have q2:=Hr.word (i:=posOf l+2) (by show posOf l+2<h.words.length; simp at hlen; omega)
      replace q0:wr.cell? ⟨p.gw,posOf l,none⟩=some (.int .u32 (a:Int)):=by rw [← g0]; exact q0
      replace q1:wr.cell? ⟨p.gw,posOf l+1,none⟩=some (.int .u32 (b:Int)):=by rw [← g1]; exact q1
      replace q2:wr.cell? ⟨p.gw,posOf l+2,none⟩=some (.int .u32 (c:Int)):=by rw [← g2]; exact q2
      clear g0 g1 g2 hr0 hr3
      have hgg:p.g<wr.heap.size:=Hr.lt (.inl rfl)
      have hgw:p.gw<wr.heap.size:=Hr.lt (.inr (.inl rfl))
      have hgs:p.gs<wr.heap.size:=Hr.lt (.inr (.inr (.inl rfl)))
      have n1:wr.heap.size≠p.gw:=by omega
      have HSP:=Lib.hid (hst1.spares HFAR.out HS.out)
      have hdec:decide (posOf l<h.words.length)=true:=by simp at hlen ⊢; omega
      have hdec1:(posOf l:Int)+3≤((h.words.length:Nat):Int):=by simp at hlen; omega
      cases hok:okhd a b c
      ·have HN:=Lib.hid (hp.none (parseT_bad hok))
       have HOK:=Lib.hid hok
       clear hok hp hm h32
       generalize posOf l=k at *
       clear hlen
       go_wp2_with fail
       refine (unpack_bad a b c ba bb bc _ HSP.out HOK.out).mono ?_
       rintro e w1 ⟨rfl,hb1⟩
       have c1:=(Hr.below hb1).c0
       have hsz:=hb1.size
       have hgg1:p.g<w1.heap.size:=by omega
       have s1:=(hst1.below' hb1).alloc (.cells #[.int .i64 0,.int .i64 0,.int .i64 0,.int .u32 0,.int .u32 0] 137)
       have hdec2:((k:Int) == (h.words.length:Int))=false:=by simp at hdec ⊢; omega
       clear q0 q1 q2 c0 Hr
       go_wp2_with fail
       go_ret
       exact⟨false,rfl,s1,fun _=>HN.out,fun e=>by cases e⟩
      ·have hfit:=unhd_fit a b c bb bc
       have HOK:=Lib.hid hok
       have HSL:=Lib.hid (show (false :: msOf l++List.replicate (a :: b :: c :: r').length false).length=h.words.length by
        rw [List.length_append,List.length_cons,msOf_len,List.length_replicate,hlen]; unfold posOf; omega)
       by_cases hsz:(unhd a b c).size≤r'.length
       ·have HP2:=Lib.hid (hp.next h32 hok hsz)
        have HPOS:=Lib.hid (posOf_snoc l ⟨unhd a b c,r'.take (unhd a b c).size⟩)
        have HMS:=Lib.hid (marks_set l ⟨unhd a b c,r'.take (unhd a b c).size⟩ (a :: b :: c :: r').length (r'.drop (unhd a b c).size).length (by simp; omega))
        have HTL:=Lib.hid (show (r'.take (unhd a b c).size).length=(unhd a b c).size by simp; omega)
        have HLEN:=Lib.hid (show h.words.length=posOf l+(r'.length+3) by simpa using hlen)
        clear hlen hm h32 hp
        generalize posOf l=k at *
        have HU:=Lib.hid (unpack_any a b c ba bb bc wr HSP.out HOK.out)
        have hxv:(unhd a b c).val = .agg #[.int .i64 (unhd a b c).size,.int .i64 (unhd a b c).fmt,.int .i64 (unhd a b c).spare,.int .u32 (unhd a b c).cls,.int .u32 (unhd a b c).ser]:=rfl
        rw [hxv] at HU
        clear hxv hok
        generalize unhd a b c=x at *
        obtain⟨f1,f2,f3,f4,f5⟩:=hfit
        have hkl:k<h.words.length:=by simpa using hdec
        go_wp2_with fail
        refine HU.out.mono ?_
        rintro e w1 ⟨rfl,hb1⟩
        have hb2:=hb1.alloc hb1.size (.cells #[.int .i64 x.size,.int .i64 x.fmt,.int .i64 x.spare,.int .u32 x.cls,.int .u32 x.ser] 137)
        have BH:=Blk.new w1 137 #[.int .i64 x.size,.int .i64 x.fmt,.int .i64 x.spare,.int .u32 x.cls,.int .u32 x.ser]
        have Hr2:=Hr.below hb2
        have c1:=Hr2.c1
        have sl:(false :: msOf l++List.replicate (a :: b :: c :: r').length false).length=h.words.length:=HSL.out
        simp only [sl] at c1
        have m1:=Hr2.mark (i:=k) (by show k<(false :: msOf l++List.replicate (a :: b :: c :: r').length false).length; rw [sl]; exact hkl)
        have z1:=Hr2.2.2.1.frozen k
        have HS2:=Lib.hid (Hr2.setMark k true)
        have ST2:=Lib.hid ((hst1.below' hb2).setCell (a:=⟨p.gs,k,none⟩) (.inl (.inr (.inr (.inl rfl)))) (.bool true))
        have hne:p.gs≠w1.heap.size:=by have:=hb1.size; omega
        obtain⟨d0,-,-,-,-⟩:=(BH.far (p:=⟨p.gs,k,none⟩) (fun e=>hne e.symm) (.bool true)).cells5
        clear q0 q1 q2 c0 sl hb1 BH
        dsimp only at m1
        generalize (false :: msOf l++List.replicate (a :: b :: c :: r').length false).getD k false=mb at m1
        have hk4:(k:Int)<((h.words.length:Nat):Int):=by omega
        go_wp2_with fail
        go_roundw
        case rel=>
         have hl:=HLEN.out
         refine⟨k+(3+x.size),by go_num,by omega,ST2.out,.inl ⟨l++[⟨x,r'.take x.size⟩],r'.drop x.size,HP2.out,by rw [HPOS.out,HTL.out]; omega,?_⟩⟩
         have e:=HS2.out
         rw [HMS.out] at e
         exact e
        case measure=>simp [intOf]; omega
       ·have HN:=Lib.hid (hp.none (parseT_long (by omega)))
        have HLEN:=Lib.hid (show h.words.length=posOf l+(r'.length+3) by simpa using hlen)
        clear hlen hm h32 hp
        generalize posOf l=k at *
        have HU:=Lib.hid (unpack_any a b c ba bb bc wr HSP.out HOK.out)
        have hxv:(unhd a b c).val = .agg #[.int .i64 (unhd a b c).size,.int .i64 (unhd a b c).fmt,.int .i64 (unhd a b c).spare,.int .u32 (unhd a b c).cls,.int .u32 (unhd a b c).ser]:=rfl
        rw [hxv] at HU
        clear hxv hok
        generalize unhd a b c=x at *
        obtain⟨f1,f2,f3,f4,f5⟩:=hfit
        have hkl:k<h.words.length:=by simpa using hdec
        go_wp2_with fail
        refine HU.out.mono ?_
        rintro e w1 ⟨rfl,hb1⟩
        have hb2:=hb1.alloc hb1.size (.cells #[.int .i64 x.size,.int .i64 x.fmt,.int .i64 x.spare,.int .u32 x.cls,.int .u32 x.ser] 137)
        have BH:=Blk.new w1 137 #[.int .i64 x.size,.int .i64 x.fmt,.int .i64 x.spare,.int .u32 x.cls,.int .u32 x.ser]
        have Hr2:=Hr.below hb2
        have c1:=Hr2.c1
        have sl:(false :: msOf l++List.replicate (a :: b :: c :: r').length false).length=h.words.length:=HSL.out
        simp only [sl] at c1
        have m1:=Hr2.mark (i:=k) (by show k<(false :: msOf l++List.replicate (a :: b :: c :: r').length false).length; rw [sl]; exact hkl)
        have z1:=Hr2.2.2.1.frozen k
        have HS2:=Lib.hid (Hr2.setMark k true)
        have ST2:=Lib.hid ((hst1.below' hb2).setCell (a:=⟨p.gs,k,none⟩) (.inl (.inr (.inr (.inl rfl)))) (.bool true))
        have hne:p.gs≠w1.heap.size:=by have:=hb1.size; omega
        obtain⟨d0,-,-,-,-⟩:=(BH.far (p:=⟨p.gs,k,none⟩) (fun e=>hne e.symm) (.bool true)).cells5
        clear q0 q1 q2 c0 sl hb1 BH
        dsimp only at m1
        generalize (false :: msOf l++List.replicate (a :: b :: c :: r').length false).getD k false=mb at m1
        have hk4:(k:Int)<((h.words.length:Nat):Int):=by omega
        go_wp2_with fail
        go_roundw
        case rel=>
         have hl:=HLEN.out
         refine⟨k+(3+x.size),by go_num,by omega,ST2.out,.inr ⟨by omega,HN.out,_,?_,HS2.out⟩⟩
         rw [List.length_set,HSL.out,HF.out.marks]
        case measure=>simp [intOf]; omega
   ·have c0:=Hr.c0
    have hdec:decide (k<h.words.length)=false:=by simp; omega
    have hdec2:((k:Int) == (h.words.length:Int))=false:=by simp; omega
    have HN:=Lib.hid hnone
    clear hnone
    go_wp2_with fail
    go_ret
    exact⟨false,rfl,hst1,fun _=>HN.out,fun e=>by cases e⟩
 ·have hb:((h.words.getD 0 0:Int) != 0)=true:=by rw [bne_iff_ne]; omega
  have HN:=Lib.hid (show parseW h.words=none by
   unfold parseW
   split
   ·rename_i hw; rw [hw] at h0; simp at h0
   ·rfl)
  generalize h.words.getD 0 0=x at *
  clear h0
  go_enter Tryz.func146,Tryz.ntmps146
  go_wp2_with fail
  go_step3
  go_wp2_with fail
  rw [Exit.noGoto_ret]
  go_ret
  exact⟨false,rfl,Step.refl _ _,fun _=>HN.out,fun e=>by cases e⟩
end
section
open Go.RowKit Go.Maps
structure HM.ObOk (h:HM) (b:Ob):Prop where
 cls:h.clsB b.x.cls=true
 flds:b.x.ptrB=true→∀ f∈b.fs,h.valB f=true
 spare:b.x.fmt=2→spareE b.fs b.x.spare=0
 lo:1≤b.x.ser
 hi:b.x.ser≤h.last
def HM.UpTo (h:HM) (a:List Ob):Prop:=(∀ b∈a,h.ObOk b)∧(a.map (·.x.ser)).Nodup
theorem HM.sound_iff (h:HM) (l:List Ob):h.Sound l↔h.UpTo l∧∀ r∈h.roots,h.valB r=true:=
 ⟨fun s=>⟨⟨fun b hb=>⟨s.cls b hb,s.flds b hb,s.spare b hb,(s.sers b hb).1,(s.sers b hb).2⟩,s.nodup⟩,s.roots⟩,
  fun s=>⟨fun b hb=>(s.1.1 b hb).cls,fun b hb=>(s.1.1 b hb).flds,fun b hb=>(s.1.1 b hb).spare,fun b hb=>⟨(s.1.1 b hb).lo,(s.1.1 b hb).hi⟩,s.1.2,s.2⟩⟩
theorem HM.not_sound_ob {h:HM} {a c:List Ob} {b:Ob} (hn:¬ h.ObOk b):¬ h.Sound (a++b :: c):=fun s=>hn (((h.sound_iff _).1 s).1.1 b (by simp))
theorem HM.not_sound_dup {h:HM} {a c:List Ob} {b:Ob} (hn:b.x.ser∈a.map (·.x.ser)):¬ h.Sound (a++b :: c):=fun s=>by
 have:=s.nodup
 rw [List.map_append,List.map_cons,List.nodup_append] at this
 exact this.2.2 _ hn _ (by simp) rfl
theorem HM.upTo_nil (h:HM):h.UpTo []:=⟨(fun _ hb=>by cases hb),List.nodup_nil⟩
theorem HM.UpTo.snoc {h:HM} {a:List Ob} {b:Ob} (u:h.UpTo a) (ho:h.ObOk b) (hn:b.x.ser∉a.map (·.x.ser)):h.UpTo (a++[b]):=by
 refine⟨fun y hy=>?_,?_⟩
 ·rcases List.mem_append.1 hy with hy | hy
  ·exact u.1 y hy
  ·simp only [List.mem_cons,List.not_mem_nil,or_false] at hy
   exact hy ▸ ho
 ·rw [List.map_append,List.nodup_append]
  refine⟨u.2,by simp,?_⟩
  intro s hs s' hs'
  simp only [List.map_cons,List.map_nil,List.mem_cons,List.not_mem_nil,or_false] at hs'
  subst hs'
  rintro rfl
  exact hn hs
def cntOf (a:List Ob):Nat→Nat:=fun x=>if x∈a.map (·.x.ser) then 1 else 0
theorem cnt_snoc {a:List Ob} {b:Ob} (hn:b.x.ser∉a.map (·.x.ser)):upd (cntOf a) b.x.ser 1=cntOf (a++[b]):=by
 funext y
 unfold upd cntOf
 by_cases hy:y=b.x.ser
 ·subst hy; rw [if_pos rfl,if_pos (by simp)]
 ·rw [if_neg hy]
  have e:(y∈(a++[b]).map (·.x.ser))=(y∈a.map (·.x.ser)):=by simp [hy]
  simp only [e]
theorem sersTy:MapTy 195 37:=⟨Tryz.underlying195,Tryz.underlying37⟩
def oopAt (a c:List Ob):Nat:=if c=[] then 0 else 2*posOf a
theorem HM.Laid.objM_at {h:HM} {a c:List Ob} (L:h.Laid (a++c)):h.objM (posOf a)=oopAt a c:=by
 have hw:h.words.length=posOf a+(wsOf c).length:=by rw [L.words,wsOf_app]; simp [posOf]; omega
 unfold HM.objM oopAt
 cases c with
 | nil=>rw [if_pos (by rw [hw]; simp [wsOf_nil]),if_pos rfl]
 | cons b c=>
   rw [if_neg (by rw [hw,wsOf_cons]; simp [b.ws_len]; omega),if_neg (by simp)]
theorem HM.Laid.nextO_at {h:HM} {a c:List Ob} {b:Ob} (L:h.Laid (a++b :: c)):h.nextO (2*posOf a)=oopAt (a++[b]) c:=by
 unfold HM.nextO
 rw [half_pos,L.hd_at,L.ok_at.size,← posOf_snoc]
 exact HM.Laid.objM_at (by rw [List.append_assoc]; exact L)
theorem HAt.fields {w:World} {p:HP} {h:HM} {a c:List Ob} {b:Ob} (H:HAt w p h) (L:h.Laid (a++b :: c)) {B:Nat} (hB:p.gw<B):Reads w B 1 (some ⟨p.gw,posOf a+3,none⟩) b.fs.length (u32s b.fs):=
 ⟨by simp [u32s_len],fun _=>⟨_,rfl,hB,fun j u hj=>by
   have hjl:j<b.fs.length:=by
    rcases Nat.lt_or_ge j b.fs.length with h1 | h1
    ·exact h1
    ·rw [List.getElem?_eq_none (by rw [u32s_len]; exact h1)] at hj; cases hj
   rw [u32s_get hjl] at hj
   injection hj with hj
   subst hj
   rw [WideShapes.add_plain]
   have hwl:=L.words_len
   have:=H.word (i:=posOf a+3+j) (by omega)
   rw [this]
   have e:=L.f_at j hjl
   unfold fw at e
   rw [half_pos] at e
   rw [← e]
   rfl⟩⟩
def HM.badHd (h:HM) (a:List Ob) (b:Ob):Bool:=decide (b.x.ser=0) || decide (h.last<b.x.ser) || decide (b.x.ser∈a.map (·.x.ser)) || !h.clsB b.x.cls
theorem HM.badHd_not {h:HM} {a c:List Ob} {b:Ob} (hb:h.badHd a b=true):¬ h.Sound (a++b :: c):=by
 unfold HM.badHd at hb
 simp only [Bool.or_eq_true,decide_eq_true_eq,Bool.not_eq_true'] at hb
 rcases hb with ((hb | hb) | hb) | hb
 ·exact HM.not_sound_ob fun k=>by have:=k.lo; omega
 ·exact HM.not_sound_ob fun k=>by have:=k.hi; omega
 ·exact HM.not_sound_dup hb
 ·exact HM.not_sound_ob fun k=>by have:=k.cls; rw [hb] at this; cases this
theorem HM.badHd_ok {h:HM} {a:List Ob} {b:Ob} (hb:h.badHd a b=false):1≤b.x.ser∧b.x.ser≤h.last∧b.x.ser∉a.map (·.x.ser)∧h.clsB b.x.cls=true:=by
 unfold HM.badHd at hb
 simp only [Bool.or_eq_false_iff,decide_eq_false_iff_not,Bool.not_eq_false'] at hb
 exact⟨by omega,by omega,hb.1.2,hb.2⟩
def SoundP (h:HM) (l:List Ob) (w:World) (e:Ending) (w':World):Prop:=∃ b:Bool,e = .returned (.bool b)∧(b=true↔h.Sound l)∧Below w.heap.size w w'
def SoundMid (h:HM) (gm:Nat) (a:List Ob) (w wr:World):Prop:=h.UpTo a∧MapIs 37 wr gm a.length (cntOf a)∧Below w.heap.size w wr
set_option maxRecDepth 100000 in
set_option maxHeartbeats 4000000 in
theorem sound_any {w:World} {p:HP} {h:HM} {l:List Ob} (H:HAt w p h) (f:h.Fit) (L:h.Laid l) (hs:Spares w):
 Calls Tryz.prog 147 #[ptr p.g] w (SoundP h l w):=by
 have hmm:=@run_makeMap Tryz.prog
 have hb0:=fun o=>(Below.refl w.heap.size w).alloc (Nat.le_refl _) o
 have hW1:Below w.heap.size w ((w.alloc (.cells #[.pointer (some ⟨p.g,0,none⟩)] 22)).alloc (.map #[] 0)):=((Below.refl _ _).alloc (Nat.le_refl _) _).alloc (by simp) _
 have HB0:=Lib.hid hb0
 have HH:=Lib.hid H; have HF:=Lib.hid f; have HL:=Lib.hid L; have HS:=Lib.hid hs
 have HFI:=Lib.hid (fun (w':World) (hb:Below w.heap.size w w')=>first_any (H.below hb) f)
 have HFO:=Lib.hid (show h.objM 1=oopAt [] l from HM.Laid.objM_at (a:=[]) L)
 clear hb0 H f L hs
 unfold ptr at HFI ⊢
 go_enter Tryz.func147,Tryz.ntmps147
 go_wp2_with fail
 refine (HFI.out _ hW1).mono ?_
 rintro e w' ⟨rfl,rfl⟩
 rw [HFO.out]
 have BB:=(Blk.new w 22 #[.pointer (some ⟨p.g,0,none⟩)]).alloc (.map #[] 0)
 have MM:=MapIs.made (w.alloc (.cells #[.pointer (some ⟨p.g,0,none⟩)] 22)) 37
 rw [World.size_alloc] at MM
 generalize hW:(w.alloc (.cells #[.pointer (some ⟨p.g,0,none⟩)] 22)).alloc (.map #[] 0)=W1 at *
 clear hW
 have HM0:=Lib.hid (show SoundMid h (w.heap.size+1) [] w W1 from⟨h.upTo_nil,MM,hW1⟩)
 have HBB:=Lib.hid BB
 have HW1:=Lib.hid hW1
 clear BB MM hW1
 go_wp2_with fail
 have hmf:∀ (fn:Fn) (first cap:Array Value) (w:World),(Instr.makeFunc fn first cap).run Tryz.prog w = .ok (.func fn first cap) w:=fun _ _ _ _=>rfl
 have hne0:w.heap.size≠p.gw:=by have:=HH.out.lt (.inr (.inl rfl)); omega
 go_loopg [4] (l.length+1) (fun k o wr=>∃ a c,l=a++c∧k=c.length+1∧o = .int .u32 (oopAt a c:Nat)∧SoundMid h (w.heap.size+1) a w wr∧Blk wr w.heap.size 22 #[.pointer (some ⟨p.g,0,none⟩)])
 case atStart=>exact⟨[],l,rfl,rfl,rfl,HM0.out,HBB.out⟩
 case round =>
  obtain⟨a,c,hl,hgk,rfl,⟨hup,hmap,hb⟩,hbox⟩:=hrel
  have HLL:=Lib.hid hl
  have HGK:=Lib.hid hgk
  clear HM0 HBB HW1 hl hgk
  have bx:=hbox.cell 0
  simp only [List.getElem?_toArray,List.getElem?_cons_zero] at bx
  cases c with
  | nil=>
    have ho:oopAt a []=0:=rfl
    rw [ho]
    have Hr:=HH.out.below hb
    have c2:=Hr.c2
    have Rr:=Hr.2.2.2.reads Hr.2.2.2.lt
    rw [u32s_len] at Rr
    have hrl:h.roots.length≤9223372036854775807:=by rw [HF.out.roots]; omega
    have HC:=Lib.hid (containsFunc_any Hr HF.out w.heap.size bx (some ⟨p.gr,0,none⟩) h.roots.length p.cr _ h.roots hrl Rr HF.out.r32)
    have HS2:=Lib.hid (show (!(h.roots.any fun o=> !h.valB o))=true↔h.Sound l by
     rw [h.sound_iff,HLL.out,List.append_nil]
     simp only [Bool.not_eq_true',List.any_eq_false]
     constructor
     ·intro hh
      exact⟨hup,fun r hr=>by have:=hh r hr; simpa using this⟩
     ·intro hh r hr
      have:=hh.2 r hr
      simp [this])
    clear Rr hup hmap
    unfold badFn at HC
    generalize (h.roots.any fun o=> !h.valB o)=bb at *
    go_wp2_with fail
    refine HC.out.mono ?_
    rintro e w' ⟨rfl,rfl⟩
    go_wp2_with fail
    go_ret
    exact⟨!bb,rfl,HS2.out,hb⟩
  | cons b c =>
    have L:=HL.out
    rw [HLL.out] at L
    have ho:oopAt a (b :: c)=2*posOf a:=rfl
    have hp1:1≤posOf a:=by unfold posOf; omega
    rw [ho]
    have K:=L.ok_at
    have hwl:posOf a+3+b.x.size≤h.words.length:=by have:=L.words_len; have:=K.size; omega
    have hroom:=HF.out.room
    have hhi:=HF.out.hi
    have hhd:=L.hd_at
    have hda:=L.hdAt_at
    have HAT:=Lib.hid (fun w'=>at_any p.g (2*posOf a) (by omega) (objB_pos a) w')
    rw [half_pos] at HAT
    have HHD:=Lib.hid (fun (w':World) (hb:Below w.heap.size w w')=>header_any (HH.out.below hb) HF.out (HS.out.below hb) (posOf a) hda)
    rw [hhd] at HHD
    have hxv:b.x.val = .agg #[.int .i64 b.x.size,.int .i64 b.x.fmt,.int .i64 b.x.spare,.int .u32 b.x.cls,.int .u32 b.x.ser]:=rfl
    rw [hxv] at HHD
    unfold ptr at HAT HHD
    clear ho hhd hda hxv
    have hne:((2*posOf a:Nat):Int)≠0:=by omega
    go_wp2_with fail
    refine (HAT.out _).mono ?_
    rintro e w' ⟨rfl,rfl⟩
    go_wp2_with fail
    refine (HHD.out _ hb).mono ?_
    rintro e w1 ⟨rfl,hb1⟩
    have hb2:=below_top hb (hb1.alloc hb1.size (.cells #[.int .i64 b.x.size,.int .i64 b.x.fmt,.int .i64 b.x.spare,.int .u32 b.x.cls,.int .u32 b.x.ser] 137))
    have BX2:=(hbox.below hb1 hbox.lt).alloc (.cells #[.int .i64 b.x.size,.int .i64 b.x.fmt,.int .i64 b.x.spare,.int .u32 b.x.cls,.int .u32 b.x.ser] 137)
    have BH2:=Blk.new w1 137 #[.int .i64 b.x.size,.int .i64 b.x.fmt,.int .i64 b.x.spare,.int .u32 b.x.cls,.int .u32 b.x.ser]
    have MM2:=(hmap.below hb1).below ((Below.refl _ _).alloc (Nat.le_refl _) (.cells #[.int .i64 b.x.size,.int .i64 b.x.fmt,.int .i64 b.x.spare,.int .u32 b.x.cls,.int .u32 b.x.ser] 137))
    have hgH:w.heap.size+1<w1.heap.size:=by have:=hb1.size; have:=hmap.lt; omega
    have fx:=K.fit
    obtain⟨fs1,fs2,fs3,fs4,fs5⟩:=fx
    clear hbox hb hb1 hmap bx
    go_upto_region 7 with fail
    generalize w1.alloc (.cells #[.int .i64 b.x.size,.int .i64 b.x.fmt,.int .i64 b.x.spare,.int .u32 b.x.cls,.int .u32 b.x.ser] 137)=W2 at *
    generalize w1.heap.size=gH at *
    go_cut [7] (fun fv wx=>∃ A c',fv = .slice A b.x.size c'∧Reads wx w.heap.size 1 A b.x.size (u32s b.fs)∧Below W2.heap.size W2 wx)
    case first=>
     have H2:=HH.out.below hb2
     have c0:=H2.c0
     have hcap:h.words.length≤p.cw:=by obtain⟨_,_,h1,_⟩:=H2.2.1; simpa [u32s] using h1
     have hcm:p.cw≤9223372036854775807:=by obtain⟨_,_,_,h1,_⟩:=H2.2.1; unfold maxLen at h1; exact h1
     have bx:=BX2.cell 0
     simp only [List.getElem?_toArray,List.getElem?_cons_zero] at bx
     obtain⟨d0,-,-,-,-⟩:=BH2.cells5
     have hgw:=H2.lt (.inr (.inl rfl))
     have RF:=Lib.hid (H2.fields L (B:=w.heap.size) (HH.out.lt (.inr (.inl rfl))))
     rw [← K.size] at RF
     have hbe:=below_drew (Below.refl W2.heap.size W2)
     clear L K H2 BX2 BH2 MM2 hup
     generalize posOf a=q at *
     generalize b.x.size=n at *
     by_cases hcq:p.cw=q+3
     ·have hn0:n=0:=by omega
      subst hn0
      have hwl0:h.words.length=q+3:=by omega
      have HZ:=Lib.hid hcq
      have hq20:q≤1048576:=by omega
      rw [hcq,hwl0] at c0
      clear hcq hwl hcap hcm hwl0
      have e1:(q:Int)+3≤((q+3:Nat):Int):=by omega
      have e2:(q:Int)+3≤(q:Int)+3+((0:Nat):Int):=by omega
      have e3:(q:Int)+3+((0:Nat):Int)≤((q+3:Nat):Int):=by omega
      have a1:IntKind.i64.wrap ((q:Int)+3)=(q:Int)+3:=IntWalk.i64_in _ (by omega)
      have a2:((q:Int)+3).toNat=q+3:=by omega
      have a3:(0:Int)≤(q:Int)+3:=by omega
      go_region
      all_goals go_wp2_with fail
      all_goals go_meet
      all_goals exact⟨_,_,(by first | rfl | rw [Nat.sub_self] | (trace_state; simp)),⟨RF.out.1,fun h0=>absurd h0 (by decide)⟩,hbe⟩
     ·have hne':¬ (p.cw=q+3):=hcq
      have e0:¬ (p.cw-(q+3)=0):=by omega
      have e1:(q:Int)+3≤(p.cw:Int):=by omega
      have e2:(q:Int)+3≤(q:Int)+3+(n:Int):=by omega
      have e3:(q:Int)+3+(n:Int)≤(p.cw:Int):=by omega
      clear hcq
      go_region
      all_goals go_wp2_with fail
      all_goals go_meet
      all_goals exact⟨_,_,by rw [show q+3+n-(q+3)=n by omega],RF.out.drew,hbe⟩
    case rest =>
     obtain⟨A,c',rfl,RA,hb3⟩:=hcut
     have hb4:=below_top hb2 hb3
     have BX3:=BX2.below hb3 BX2.lt
     have BH3:=BH2.below hb3 BH2.lt
     have MM3:=MM2.below hb3
     have hcn:cntOf a b.x.ser≤1:=by unfold cntOf; split <;> omega
     have hal:a.length<9223372036854775807:=by
      have h1:=wsOf_ge a
      have h2:posOf a=1+(wsOf a).length:=rfl
      omega
     have hlk:=MM3.look sersTy fs5
     obtain⟨W4,hpt,MM4,hg4⟩:=MM3.put sersTy (v:=cntOf a b.x.ser+1) fs5 (by omega) hal
     rw [show (((cntOf a b.x.ser+1:Nat)):Int)=(cntOf a b.x.ser:Int)+1 by omega] at hpt
     obtain⟨d0,d1,d2,d3,d4⟩:=BH3.cells5
     have hb5:=hb4.grown hg4 hb4.size (fun k hk=>by cases hk; omega)
     have RA5:Reads W4 w.heap.size 1 A b.x.size (u32s b.fs):=RA.keep fun q hq=>(hb5.cell hq).trans (hb4.cell hq).symm
     have BX5:=BX3.same (hg4.block w.heap.size BX3.lt (by simp))
     have BH5:=BH3.same (hg4.block gH BH3.lt (by intro e; injection e with e; omega))
     have HCN:=Lib.hid (show cntOf a b.x.ser=if b.x.ser∈a.map (·.x.ser) then 1 else 0 from rfl)
     clear hb2 hb3 BX2 BH2 MM2 BX3 BH3 RA
     go_upto_region 9 with fail
     clear hlk hpt d0 d1 d2 d3 d4 hg4 MM3 hb4
     go_cut [71] (fun v wx=>v = .bool (h.badHd a b)∧Below W4.heap.size W4 wx)
     case first=>
      have hlk4:=MM4.look sersTy fs5
      rw [show upd (cntOf a) b.x.ser (cntOf a b.x.ser+1) b.x.ser=cntOf a b.x.ser+1 by simp [upd]] at hlk4
      have bx:=BX5.cell 0
      simp only [List.getElem?_toArray,List.getElem?_cons_zero] at bx
      obtain⟨d0,d1,d2,d3,d4⟩:=BH5.cells5
      have H5:=HH.out.below hb5
      have c4:=H5.c4
      have hbe:=fun n=>below_drewN (Below.refl W4.heap.size W4) n
      have HCL:=Lib.hid (fun n=>class_any (H5.drewN n) HF.out b.x.cls fs4)
      by_cases s0:b.x.ser=0
      ·have HB:=Lib.hid (show h.badHd a b=true by simp [HM.badHd,s0])
       rw [s0] at d4
       clear hlk4 c4 H5 BX5 BH5 MM4 RA5 L K
       go_quiet (fail)
       all_goals go_wp2_with fail
       all_goals go_meet
       all_goals exact⟨by rw [HB.out],hbe _⟩
      ·have e0:((b.x.ser:Int) == 0)=false:=by simp; omega
       by_cases s1:h.last<b.x.ser
       ·have HB:=Lib.hid (show h.badHd a b=true by simp [HM.badHd,s1])
        have e1:decide (h.last<b.x.ser)=true:=by simp; omega
        clear hlk4 H5 BX5 BH5 MM4 RA5 L K s0 s1
        go_quiet (fail)
        all_goals go_wp2_with fail
        all_goals go_meet
        all_goals exact⟨by rw [HB.out],hbe _⟩
       ·have e1:decide (h.last<b.x.ser)=false:=by simp; omega
        by_cases s2:b.x.ser∈a.map (·.x.ser)
        ·have HB:=Lib.hid (show h.badHd a b=true by simp only [HM.badHd,s2,decide_true,Bool.or_true,Bool.true_or])
         rw [HCN.out,if_pos s2] at hlk4
         have hlk5:∀ n,(Instr.lookup 195 (.map (some (w.heap.size+1))) (.int .u32 (b.x.ser:Int)) false).run Tryz.prog (W4.drewN n) = .ok (.int .i64 2) (W4.drewN n):=fun n=>by
          have:=(show MapIs 37 (W4.drewN n) _ _ _ from MM4).look sersTy fs5
          rw [show upd (cntOf a) b.x.ser (cntOf a b.x.ser+1) b.x.ser=2 by simp [upd,HCN.out,s2]] at this
          exact this
         clear hlk4 H5 BX5 BH5 MM4 RA5 L K s0 s1 s2
         go_quiet (fail)
         all_goals go_wp2_with fail
         all_goals go_meet
         all_goals exact⟨by rw [HB.out],hbe _⟩
        ·have hlk5:∀ n,(Instr.lookup 195 (.map (some (w.heap.size+1))) (.int .u32 (b.x.ser:Int)) false).run Tryz.prog (W4.drewN n) = .ok (.int .i64 1) (W4.drewN n):=fun n=>by
          have:=(show MapIs 37 (W4.drewN n) _ _ _ from MM4).look sersTy fs5
          rw [show upd (cntOf a) b.x.ser (cntOf a b.x.ser+1) b.x.ser=1 by simp [upd,HCN.out,s2]] at this
          exact this
         have HB:=Lib.hid (show h.badHd a b = !h.clsB b.x.cls by
          simp only [HM.badHd,s0,s1,s2,decide_false,Bool.false_or])
         have HC2:=Lib.hid (show ∀ n,Calls Tryz.prog 88 #[.pointer (some ⟨p.g,0,none⟩),.int .u32 (b.x.cls:Nat)] (W4.drewN n) fun e w'=>e = .returned (.bool (h.clsB b.x.cls))∧w'=W4.drewN n from fun n=>(HCL.out n).mono fun e w' ⟨h1,h2⟩=>⟨h1,h2.symm⟩)
         clear hlk4 H5 BX5 BH5 MM4 RA5 L K s0 s1 s2 HCL
         generalize h.clsB b.x.cls=cb at *
         go_quiet ((go_at_call 88; exact Calls.quiet_of_same (HC2.out _)))
         all_goals go_wp2_with fail
         all_goals go_meet
         all_goals exact⟨by rw [HB.out],hbe _⟩
     case rest=>
      obtain⟨rfl,hb6⟩:=hcut
      have hb7:=below_top hb5 hb6
      have BX7:=BX5.below hb6 BX5.lt
      have BH7:=BH5.below hb6 BH5.lt
      have MM7:=MM4.below hb6
      have RA7:Reads wc w.heap.size 1 A b.x.size (u32s b.fs):=RA5.keep fun q hq=>(hb7.cell hq).trans (hb5.cell hq).symm
      clear hb6 BX5 BH5 MM4 RA5 hb5
      cases hbad:h.badHd a b
      ·obtain ⟨o1,o2,o3,o4⟩:=HM.badHd_ok hbad
       have hcn0:cntOf a b.x.ser=0:=by rw [HCN.out,if_neg o3]
       rw [hcn0] at MM7
       have MM8:MapIs 37 wc (w.heap.size+1) (a.length+1) (cntOf (a++[b])):=by
        have:=MM7
        rw [Nat.zero_add,cnt_snoc o3] at this
        exact this
       have HNX:=Lib.hid (fun (w':World) (hb:Below w.heap.size w w')=>next_any (HH.out.below hb) HF.out HL.out.heads (HS.out.below hb) (2*posOf a) (by omega))
       have hnv:h.nextV (2*posOf a) = .tuple #[.int .u32 (oopAt (a++[b]) c:Nat),.int .i64 0]:=by
        unfold HM.nextV
        rw [if_pos ((L.isB_iff _).2 ⟨a,b,c,rfl,rfl⟩),L.nextO_at]
       rw [hnv] at HNX
       unfold ptr at HNX
       have hmay:=K.may
       have hsz:=K.size
       have h32:=K.f32
       have hmx:b.x.size≤65535∧b.x.spare≤3∧(0<b.x.spare→0<b.x.size):=by
        unfold Hd.may at hmay
        simp only [Bool.and_eq_true,Bool.or_eq_true,decide_eq_true_eq] at hmay
        omega
       have HO:=Lib.hid (show b.x.ptrB=(decide (b.x.fmt=1) || decide (b.x.fmt=4)) from rfl)
       have HPT:=Lib.hid (fun w'=>pointers_any b.x K.fit w')
       rw [show b.x.val = .agg #[.int .i64 b.x.size,.int .i64 b.x.fmt,.int .i64 b.x.spare,.int .u32 b.x.cls,.int .u32 b.x.ser] from rfl] at HPT
       obtain⟨d0,d1,d2,d3,d4⟩:=BH7.cells5
       clear HCN hcn0 hnv hmay MM7 hbad hcn
       by_cases h2:b.x.fmt=2
       ·have HU:=Lib.hid (unpackBytes_any (w:=wc) A b.x.size c' w.heap.size b.x.spare b.fs hmx.1 RA7 hb7.size h32 hmx.2.1 hmx.2.2)
        have hpf:b.x.ptrB=false:=by rw [HO.out,h2]; rfl
        rw [hpf] at HPT
        rw [h2] at d1 HPT
        have HSZ:=Lib.hid hsz
        have H2:=Lib.hid h2
        clear hsz h2
        go_wp2_with fail
        refine HU.out.mono ?_
        rintro e wu hU
        obtain⟨hbu,v,E,rfl,hV⟩:=UnpB.any hU
        have hb8:=below_top hb7 hbu
        have BX8:=BX7.below hbu BX7.lt
        have BH8:=BH7.below hbu BH7.lt
        have MM9:=MM8.below hbu
        clear d0 d1 d2 d3 d4
        obtain⟨d0,d1,d2,d3,d4⟩:=BH8.cells5
        rw [H2.out] at d1
        have HUV:=Lib.hid hV
        clear hU hV hbu BX7 BH7 MM8 hb7 RA7
        by_cases hE:E=0
        ·subst hE
         have ob:h.ObOk b:=⟨o4,(fun e=>by rw [hpf] at e; cases e),(fun _=>by
          rcases HUV.out with ⟨e,_⟩ | ⟨_,e,_⟩
          ·exact e
          ·cases e),o1,o2⟩
         have OB:=Lib.hid ob
         clear ob
         go_wp2_with fail
         refine (HPT.out _).mono ?_
         rintro e wp ⟨rfl,hbp⟩
         have hb9:=below_top hb8 hbp
         have BX9:=BX8.below hbp BX8.lt
         have MM10:=MM9.below hbp
         clear d0 d1 d2 d3 d4 hbp BX8 BH8 MM9 hb8
         have hfin:SoundMid h (w.heap.size+1) (a++[b]) w wp:=⟨hup.snoc OB.out o3,by rw [List.length_append]; exact MM10,hb9⟩
         have HFIN:=Lib.hid hfin
         have HBOX:=Lib.hid BX9
         have bx:=BX9.cell 0
         simp only [List.getElem?_toArray,List.getElem?_cons_zero] at bx
         clear hfin
         go_wp2_with fail
         refine (HNX.out _ hb9).mono ?_
         rintro e wz ⟨rfl,hbz⟩
         have hbzz:=below_top hb9 hbz
         have BXZ:=HBOX.out.below hbz HBOX.out.lt
         have HFZ:=Lib.hid (show SoundMid h (w.heap.size+1) (a++[b]) w wz from⟨HFIN.out.1,HFIN.out.2.1.below hbz,hbzz⟩)
         clear HFIN HBOX bx
         go_wp2_with fail
         go_roundg (c.length+1)
         case measure=>rw [HGK.out]; simp
         case rel=>exact⟨a++[b],c,by rw [HLL.out]; simp,rfl,rfl,HFZ.out,BXZ⟩
        ·have HBAD:=Lib.hid (show ¬ h.Sound l by
          rw [HLL.out]
          refine HM.not_sound_ob fun k=>?_
          rcases HUV.out with ⟨_,e,_⟩ | ⟨e,_,_⟩
          ·exact hE e
          ·have:=k.spare H2.out
           rw [this] at e
           cases e)
         have hEn:¬ ((E:Int)=0):=by omega
         clear hE d0 d1 d2 d3 d4
         go_wp2_with fail
         go_ret
         exact⟨false,rfl,⟨(fun e=>by cases e),fun s=>absurd s HBAD.out⟩,hb8⟩
       ·have hf2:((b.x.fmt:Int) == 2)=false:=by simp; omega
        cases hpf:b.x.ptrB
        ·have OB:=Lib.hid (show h.ObOk b from⟨o4,(fun e=>by rw [hpf] at e; cases e),(fun e=>absurd e h2),o1,o2⟩)
         rw [hpf] at HPT
         have HSZ:=Lib.hid hsz
         clear hsz h2 hpf
         go_wp2_with fail
         refine (HPT.out _).mono ?_
         rintro e wp ⟨rfl,hbp⟩
         have hb9:=below_top hb7 hbp
         have BX9:=BX7.below hbp BX7.lt
         have MM10:=MM8.below hbp
         clear d0 d1 d2 d3 d4 hbp BX7 BH7 MM8 hb7
         have hfin:SoundMid h (w.heap.size+1) (a++[b]) w wp:=⟨hup.snoc OB.out o3,by rw [List.length_append]; exact MM10,hb9⟩
         have HFIN:=Lib.hid hfin
         have HBOX:=Lib.hid BX9
         have bx:=BX9.cell 0
         simp only [List.getElem?_toArray,List.getElem?_cons_zero] at bx
         clear hfin
         go_wp2_with fail
         refine (HNX.out _ hb9).mono ?_
         rintro e wz ⟨rfl,hbz⟩
         have hbzz:=below_top hb9 hbz
         have BXZ:=HBOX.out.below hbz HBOX.out.lt
         have HFZ:=Lib.hid (show SoundMid h (w.heap.size+1) (a++[b]) w wz from⟨HFIN.out.1,HFIN.out.2.1.below hbz,hbzz⟩)
         clear HFIN HBOX bx
         go_wp2_with fail
         go_roundg (c.length+1)
         case measure=>rw [HGK.out]; simp
         case rel=>exact⟨a++[b],c,by rw [HLL.out]; simp,rfl,rfl,HFZ.out,BXZ⟩
        ·rw [hpf] at HPT
         have HSZ:=Lib.hid hsz
         have H2:=Lib.hid h2
         have HPF:=Lib.hid hpf
         clear hsz h2 hpf
         go_wp2_with fail
         refine (HPT.out _).mono ?_
         rintro e wp ⟨rfl,hbp⟩
         have hb9:=below_top hb7 hbp
         have BX9:=BX7.below hbp BX7.lt
         have MM10:=MM8.below hbp
         have RA9:Reads wp w.heap.size 1 A b.x.size (u32s b.fs):=RA7.keep fun q hq=>(hb9.cell hq).trans (hb7.cell hq).symm
         clear d0 d1 d2 d3 d4 hbp BX7 BH7 MM8 hb7 RA7
         go_wp2_with fail
         go_loopw [89] (fun i wq=>∃ k:Nat,k≤b.x.size∧i = .int .i64 k∧(∀ f∈b.fs.take k,h.valB f=true)∧wq=wp) (fun i _=>b.x.size-(intOf i).toNat)
         case atStart=>exact⟨0,by omega,rfl,(fun f hf=>by simp at hf),rfl⟩
         case round=>
          obtain⟨k,hk,rfl,hall,rfl⟩:=hrel
          have HALL:=Lib.hid hall
          clear hall
          by_cases hlt:k<b.x.size
          ·obtain⟨ad,u0,rfl,hbl,hx,hcell⟩:=RA9.at_ hlt
           have hkl:k<b.fs.length:=by rw [← HSZ.out]; exact hlt
           rw [u32s_get hkl] at hx
           injection hx with hx
           subst hx
           have hy:b.fs.getD k 0<4294967296:=by
            rw [List.getD_eq_getElem?_getD,List.getElem?_eq_getElem hkl]
            exact h32 _ (List.getElem_mem _)
           have hmem:b.fs.getD k 0∈b.fs:=by
            rw [List.getD_eq_getElem?_getD,List.getElem?_eq_getElem hkl]
            exact List.getElem_mem _
           have htk:b.fs.take (k+1)=b.fs.take k++[b.fs.getD k 0]:=by
            rw [List.take_add_one,List.getD_eq_getElem?_getD,List.getElem?_eq_getElem hkl]
            rfl
           have HVC:=Lib.hid (value_any (HH.out.below hb9) HF.out _ hy)
           unfold ptr at HVC
           have bx:=BX9.cell 0
           simp only [List.getElem?_toArray,List.getElem?_cons_zero] at bx
           cases hv:h.valB (b.fs.getD k 0)
           ·have HBAD:=Lib.hid (show ¬ h.Sound l by
             rw [HLL.out]
             exact HM.not_sound_ob fun k'=>by have:=k'.flds HPF.out _ hmem; rw [hv] at this; cases this)
            rw [hv] at HVC
            clear hv hmem htk hkl
            generalize b.fs.getD k 0=y at *
            go_wp2_with fail
            refine HVC.out.mono ?_
            rintro e w' ⟨rfl,rfl⟩
            go_wp2_with fail
            go_ret
            exact⟨false,rfl,⟨(fun e=>by cases e),fun s=>absurd s HBAD.out⟩,hb9⟩
           ·have HNA:=Lib.hid (show ∀ f∈b.fs.take (k+1),h.valB f=true by
             rw [htk]
             intro f hf
             rcases List.mem_append.1 hf with hf | hf
             ·exact HALL.out f hf
             ·simp only [List.mem_cons,List.not_mem_nil,or_false] at hf
              rw [hf]; exact hv)
            rw [hv] at HVC
            clear hv hmem htk hkl
            generalize b.fs.getD k 0=y at *
            go_wp2_with fail
            refine HVC.out.mono ?_
            rintro e w' ⟨rfl,rfl⟩
            go_wp2_with fail
            go_roundw
            case rel=>exact⟨k+1,by omega,by go_num,HNA.out,by first | trivial | rfl⟩
            case measure=>simp [intOf]; omega
          ·obtain rfl:k=b.x.size:=by omega
           have OB:=Lib.hid (show h.ObOk b from⟨o4,(fun _ f hf=>HALL.out f (by rw [HSZ.out,List.take_length]; exact hf)),(fun e=>absurd e H2.out),o1,o2⟩)
           have hfin:SoundMid h (w.heap.size+1) (a++[b]) w _:=⟨hup.snoc OB.out o3,by rw [List.length_append]; exact MM10,hb9⟩
           have HFIN:=Lib.hid hfin
           have HBOX:=Lib.hid BX9
           have bx:=BX9.cell 0
           simp only [List.getElem?_toArray,List.getElem?_cons_zero] at bx
           clear hfin
           go_wp2_with fail
           refine (HNX.out _ hb9).mono ?_
           rintro e wz ⟨rfl,hbz⟩
           have hbzz:=below_top hb9 hbz
           have BXZ:=HBOX.out.below hbz HBOX.out.lt
           have HFZ:=Lib.hid (show SoundMid h (w.heap.size+1) (a++[b]) w wz from⟨HFIN.out.1,HFIN.out.2.1.below hbz,hbzz⟩)
           clear HFIN HBOX bx
           go_wp2_with fail
           go_roundg (c.length+1)
           case measure=>rw [HGK.out]; simp
           case rel=>exact⟨a++[b],c,by rw [HLL.out]; simp,rfl,rfl,HFZ.out,BXZ⟩
      ·have HBAD:=Lib.hid (show ¬ h.Sound l by rw [HLL.out]; exact HM.badHd_not hbad)
       clear hbad
       go_wp2_with fail
       go_ret
       exact⟨false,rfl,⟨(fun e=>by cases e),fun s=>absurd s HBAD.out⟩,hb7⟩
end
end Go.Proofs.YtdoahpflemgaeaaGreatDoor
