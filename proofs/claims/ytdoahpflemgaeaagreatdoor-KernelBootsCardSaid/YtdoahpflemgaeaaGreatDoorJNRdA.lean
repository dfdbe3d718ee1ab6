import Derived.Test.YtdoahpflemgaeaaGreatDoorJNTxt
import Derived.Test.YtdoahpflemgaeaaGreatDoorJNInt
import Derived.Test.YtdoahpflemgaeaaGreatDoorJAll
import Derived.Test.YtdoahpflemgaeaaGreatDoorJNSgl
import Derived.Test.YtdoahpflemgaeaaGreatDoorJRefG
import Derived.Test.YtdoahpflemgaeaaGreatDoorJUntil
set_option linter.unusedVariables false
set_option linter.unusedSimpArgs false
set_option linter.unusedSectionVars false
namespace Go.Proofs.YtdoahpflemgaeaaGreatDoor
section
open Go.RowKit
attribute [local go_sem] Oper.semAt_some
structure RL (w:World) (p:HP) (g:Nat) (h:HM):Prop where
 at_:RAt w p h
 hg:p.g=g
 good:∃ l,h.Good l
def RDone (p:HP) (g:Nat) (h':HM) (v:Value) (w:World) (e:Ending) (w':World):Prop:=
 ∃ p',e = .returned v∧RL w' p' g h'∧Step p p' w w'
section
variable {w w':World} {p p':HP} {g:Nat} {h h':HM} (L:RL w p g h)
include L
theorem RL.fit:h.Fit:=by obtain⟨l,G⟩:=L.good; exact G.fit
theorem RL.heads:h.Heads:=by obtain⟨l,G⟩:=L.good; exact G.laid.heads
theorem RL.below (hb:Below w.heap.size w w'):RL w' p g h:=⟨L.at_.below hb,L.hg,L.good⟩
theorem RL.put (o:Nat) (ho:o<4294967296) (i:Int) (hi:i≤9223372036854775807) (v:Nat) (hv:v<4294967296):Calls Tryz.prog 19 #[.pointer (some ⟨g,0,none⟩),.int .u32 o,.int .i64 i,.int .u32 v] w (RDone p g (h.putH o i v) (.int .i64 (h.putE o i v:Nat)) w):=by
 have hh:=rput_any L.at_ L.fit L.heads o ho i hi v hv
 rw [ptr,L.hg] at hh
 exact hh.mono fun e w1 ⟨h1,h2,h3⟩=>⟨p,h1,⟨h2,L.hg,by obtain⟨l,G⟩:=L.good; obtain⟨l2,G2,_⟩:=G.putH o i v hv; exact⟨l2,G2⟩⟩,h3⟩
theorem RL.setClass (o c:Nat) (ho:o<4294967296) (hc:c<4294967296):Calls Tryz.prog 56 #[.pointer (some ⟨g,0,none⟩),.int .u32 o,.int .u32 c] w (RDone p g (h.setClassH o c) (.int .i64 (h.setClassE o c:Nat)) w):=by
 have hh:=rsetClass_any L.at_ L.fit o c ho hc L.heads
 rw [ptr,L.hg] at hh
 exact hh.mono fun e w1 ⟨h1,h2,h3⟩=>⟨p,h1,⟨h2,L.hg,by obtain⟨l,G⟩:=L.good; obtain⟨l2,G2,_⟩:=G.setClassH o c hc; exact⟨l2,G2⟩⟩,h3⟩
theorem RL.alloc (c:Nat) (hc:c<4294967296) (t n:Int):Calls Tryz.prog 51 #[.pointer (some ⟨g,0,none⟩),.int .u32 c,.int .i64 t,.int .i64 n] w (RDone p g (h.AllocH c t n) (.tuple #[.int .u32 (h.AllocO c t n:Nat),.int .i64 (h.AllocE c t n:Nat)]) w):=by
 have hh:=rAlloc_any L.at_ L.fit c hc t n
 rw [ptr,L.hg,HM.AllocV_eq] at hh
 exact hh.mono fun e w1 ⟨p1,h1,h2,h3⟩=>⟨p1,h1,⟨h2,h3.g.trans L.hg,by obtain⟨l,G⟩:=L.good; exact G.AllocH c t n hc⟩,h3⟩
theorem RL.make (c:Nat) (hc:c<4294967296) (A:Option Addr) (n cap:Nat) (bs:List Nat) (hn:n≤9223372036854775807) (hr:Reads w w.heap.size 1 A n (u8c bs)) (hb:∀ x∈bs,x<256):Calls Tryz.prog 59 #[.pointer (some ⟨g,0,none⟩),.int .u32 c,.slice A n cap] w (RDone p g (h.makeH c bs) (.tuple #[.int .u32 (h.makeO c bs:Nat),.int .i64 (h.makeE c bs:Nat)]) w):=by
 have hh:=rMake_any L.at_ L.fit c hc A n cap bs hn hr hb
 rw [ptr,L.hg,HM.makeV_eq] at hh
 exact hh.mono fun e w1 ⟨p1,h1,h2,h3⟩=>⟨p1,h1,⟨h2,h3.g.trans L.hg,by obtain⟨l,G⟩:=L.good; exact G.MakeH c bs hc hb⟩,h3⟩
theorem RL.is (o:Nat) (ho:o<4294967296):Calls Tryz.prog 97 #[.pointer (some ⟨g,0,none⟩),.int .u32 o] w (Said (.bool (h.isB o)) w):=by
 have hh:=ris_any L.at_ L.fit o ho
 rw [ptr,L.hg] at hh
 exact hh
theorem RL.val (o:Nat) (ho:o<4294967296):Calls Tryz.prog 63 #[.pointer (some ⟨g,0,none⟩),.int .u32 o] w (Said (.bool (h.valB o)) w):=by
 have hh:=rvalb_any L.at_ L.fit o ho
 rw [ptr,L.hg] at hh
 exact hh
theorem RL.header (o:Nat) (ho:o<4294967296) (hi:h.isB o=true):Calls Tryz.prog 103 #[.pointer (some ⟨g,0,none⟩),.int .u32 o] w (Told (h.hd (o / 2)).val w):=by
 have hh:=rheader_any L.at_ L.fit o ho (HM.isB_hd L.heads hi)
 rw [ptr,L.hg] at hh
 exact hh
theorem RL.length (o:Nat) (ho:o<4294967296) (hi:h.isB o=true):Calls Tryz.prog 101 #[.pointer (some ⟨g,0,none⟩),.int .u32 o] w (Told (.int .i64 (h.lenN o:Nat)) w):=by
 have hh:=rlen_any L.at_ L.fit o ho (HM.isB_hd L.heads hi)
 rw [ptr,L.hg] at hh
 have e:h.lenN o=(h.hd (o / 2)).len:=by unfold HM.lenN; rw [if_pos hi]
 rw [e]
 exact hh
theorem RL.get (o:Nat) (ho:o<4294967296) (i:Int) (hi:i≤9223372036854775807):Calls Tryz.prog 143 #[.pointer (some ⟨g,0,none⟩),.int .u32 o,.int .i64 i] w (Told (.tuple #[.int .u32 (h.readN o i [1,4]:Nat),.int .i64 (h.lookE o i [1,4]:Nat)]) w):=by
 have hh:=rget_any L.at_ L.fit L.heads o ho i hi
 rw [ptr,L.hg] at hh
 exact hh
theorem RL.bytes (o:Nat) (ho:o<4294967296):Calls Tryz.prog 141 #[.pointer (some ⟨g,0,none⟩),.int .u32 o] w (RBytesP h o w):=by
 have hh:=rbytes_any L.at_ L.fit o ho L.heads
 rw [ptr,L.hg] at hh
 exact hh
theorem RL.roots:∃ gr cr,w.cell? ⟨g,2,none⟩=some (.slice (some ⟨gr,0,none⟩) 64 cr)∧∀ i,i<64→w.cell? ⟨gr,i,none⟩=some (.int .u32 ((h.rt i:Nat):Int)):=by
 have hr:=L.fit.roots
 refine⟨p.gr,p.cr,?_,fun i hi=>L.at_.root (i:=i) (by omega)⟩
 have c2:=L.at_.c2
 rw [L.hg,hr] at c2
 exact c2
end
def HM.isF (h:HM) (o f n:Nat):Bool:=h.isB o && (decide ((h.hd (o / 2)).fmt=f) && decide (n≤(h.hd (o / 2)).size))
theorem isF_ptrs (h:HM) (o n:Nat):h.isF o 1 n=h.ptrsK o n:=rfl
section
variable {w:World} {p:HP} {g:Nat} {h:HM} (L:RL w p g h)
include L
set_option maxRecDepth 100000 in
theorem dis_any (o:Nat) (ho:o<4294967296) (f n:Nat) (hf:f<8) (hn:n≤100000):Calls Tryz.prog 58 #[.pointer (some ⟨g,0,none⟩),.int .u32 o,.int .i64 f,.int .i64 n] w (Told (.bool (h.isF o f n)) w):=by
 have HI:=Lib.hid (L.is o ho)
 have HH:=Lib.hid (fun (hi:h.isB o=true) (w1:World) (hb:Below w.heap.size w w1)=>(L.below hb).header o ho hi)
 have HF:=Lib.hid (show h.isF o f n=(h.isB o && (decide ((h.hd (o / 2)).fmt=f) && decide (n≤(h.hd (o / 2)).size))) from rfl)
 have f0:=fld0
 have f1:=fld1
 clear L
 rw [HF.out]
 generalize h.hd (o / 2)=x at *
 obtain⟨sz,fm,sp,cl,se⟩:=x
 clear HF
 cases hi:h.isB o with
 | false=>
   rw [hi] at HI
   clear HH hi
   go_enter Tryz.func58,Tryz.ntmps58
   go_wp2_with fail
   refine HI.out.mono ?_
   rintro e w1 ⟨rfl,rfl⟩
   go_wp2_with fail
   go_ret
   exact⟨by simp,Below.refl _ _⟩
 | true=>
   rw [hi] at HI
   have HH1:=Lib.hid (fun (w1:World) (hb:Below w.heap.size w w1)=>HH.out hi w1 hb)
   have HH0:=Lib.hid (HH1.out w (Below.refl _ _))
   clear HH hi
   by_cases h2:fm=f
   ·subst h2
    have hd0:((fm:Int) == (fm:Int))=true:=by simp
    by_cases h3:n≤sz
    ·have hd:decide ((sz:Int)≥(n:Int))=true:=decide_eq_true (by omega)
     have hd2:decide ((n:Int)≤(sz:Int))=true:=decide_eq_true (by omega)
     have hd3:decide (n≤sz)=true:=decide_eq_true h3
     clear h3
     go_enter Tryz.func58,Tryz.ntmps58
     go_wp2_with fail
     refine HI.out.mono ?_
     rintro e w1 ⟨rfl,rfl⟩
     go_wp2_with fail
     refine HH0.out.mono ?_
     rintro e w2 ⟨rfl,hb2⟩
     unfold Hd.val
     have HB2:=Lib.hid hb2
     have HH2:=Lib.hid (HH1.out w2 hb2)
     clear hb2 HH0 HH1 HI
     go_wp2_with fail
     refine HH2.out.mono ?_
     rintro e w3 ⟨rfl,hb3⟩
     unfold Hd.val
     have HB3:=Lib.hid (below_top HB2.out hb3)
     clear hb3 HH2 HB2
     go_wp2_with fail
     go_ret
     exact⟨by simp [hd3],HB3.out⟩
    ·have hd:decide ((sz:Int)≥(n:Int))=false:=decide_eq_false (by omega)
     have hd2:decide ((n:Int)≤(sz:Int))=false:=decide_eq_false (by omega)
     have hd3:decide (n≤sz)=false:=decide_eq_false h3
     clear h3
     go_enter Tryz.func58,Tryz.ntmps58
     go_wp2_with fail
     refine HI.out.mono ?_
     rintro e w1 ⟨rfl,rfl⟩
     go_wp2_with fail
     refine HH0.out.mono ?_
     rintro e w2 ⟨rfl,hb2⟩
     unfold Hd.val
     have HB2:=Lib.hid hb2
     have HH2:=Lib.hid (HH1.out w2 hb2)
     clear hb2 HH0 HH1 HI
     go_wp2_with fail
     refine HH2.out.mono ?_
     rintro e w3 ⟨rfl,hb3⟩
     unfold Hd.val
     have HB3:=Lib.hid (below_top HB2.out hb3)
     clear hb3 HH2 HB2
     go_wp2_with fail
     go_ret
     exact⟨by simp [hd3],HB3.out⟩
   ·have hq:((fm:Int) == (f:Int))=false:=by simp; omega
    have hqi:¬ ((fm:Int)=(f:Int)):=by omega
    have hd3:decide (fm=f)=false:=decide_eq_false h2
    clear h2
    go_enter Tryz.func58,Tryz.ntmps58
    go_wp2_with fail
    refine HI.out.mono ?_
    rintro e w1 ⟨rfl,rfl⟩
    go_wp2_with fail
    refine HH0.out.mono ?_
    rintro e w2 ⟨rfl,hb2⟩
    unfold Hd.val
    have HB2:=Lib.hid hb2
    clear hb2 HH0 HH1 HI
    go_wp2_with fail
    go_ret
    exact⟨by simp [hd3],HB2.out⟩
theorem dget_any (o:Nat) (ho:o<4294967296) (i:Nat) (hi:i≤9223372036854775807):Calls Tryz.prog 106 #[.pointer (some ⟨g,0,none⟩),.int .u32 o,.int .i64 i] w (Told (.int .u32 (h.readN o i [1,4]:Nat)) w):=by
 have HG:=Lib.hid (L.get o ho (i:Int) (by omega))
 clear L
 generalize h.readN o i [1,4]=r at *
 generalize h.lookE o i [1,4]=E at *
 go_enter Tryz.func106,Tryz.ntmps106
 go_wp2_with fail
 refine HG.out.mono ?_
 rintro e w1 ⟨rfl,hb1⟩
 have HB:=Lib.hid hb1
 clear hb1 HG
 go_wp2_with fail
 go_ret
 exact⟨rfl,HB.out⟩
theorem disbytes_any (o:Nat) (ho:o<4294967296):Calls Tryz.prog 100 #[.pointer (some ⟨g,0,none⟩),.int .u32 o] w (Told (.bool (h.isF o 2 0)) w):=by
 have HI:=Lib.hid (dis_any L o ho 2 0 (by omega) (by omega))
 clear L
 go_enter Tryz.func100,Tryz.ntmps100
 go_wp2_with fail
 refine HI.out.mono ?_
 rintro e w1 ⟨rfl,hb1⟩
 have HB:=Lib.hid hb1
 clear hb1 HI
 go_wp2_with fail
 go_ret
 exact⟨rfl,HB.out⟩
theorem dclass_any (i:Nat) (hi:i<64):Calls Tryz.prog 60 #[.pointer (some ⟨g,0,none⟩),.int .i64 i] w (Said (.int .u32 (h.rt i:Nat)) w):=by
 obtain⟨gr,cr,c2,cr0⟩:=L.roots
 have ci:=cr0 i hi
 clear L cr0
 generalize h.rt i=r at *
 go_enter Tryz.func60,Tryz.ntmps60
 go_wp2_with fail
 go_ret
 exact⟨rfl,rfl⟩
set_option maxRecDepth 100000 in
set_option maxHeartbeats 4000000 in
theorem dlive_any:Calls Tryz.prog 98 #[.pointer (some ⟨g,0,none⟩)] w (Said (.bool (!h.bareK)) w):=by
 obtain⟨gr,cr,c2,cr0⟩:=L.roots
 have a12:=cr0 12 (by omega)
 have a18:=cr0 18 (by omega)
 have a19:=cr0 19 (by omega)
 have a20:=cr0 20 (by omega)
 have a23:=cr0 23 (by omega)
 have HV:=Lib.hid (show (!h.bareK)=(decide (h.rt 12%2=0) && decide (h.rt 18%2=0) && decide (h.rt 19%2=0) && decide (h.rt 20%2=0) && decide (h.rt 23%2=0)) from by
  have e:∀ n:Nat,decide (n%2=0) = !decide (n%2=1):=fun n=>by
   rcases (by omega:n%2=0∨n%2=1) with q | q <;> simp [q]
  unfold HM.bareK
  simp only [e]
  simp only [Bool.not_or])
 rw [HV.out]
 clear L cr0 HV
 generalize h.rt 12=r1 at *
 generalize h.rt 18=r2 at *
 generalize h.rt 19=r3 at *
 generalize h.rt 20=r4 at *
 generalize h.rt 23=r5 at *
 by_cases q1:r1%2=0
 rotate_left
 ·have e1:(((r1:Int)%2) == 0)=false:=by simp; omega
  have f1:¬ ((r1:Int)%2=0):=by omega
  have d1:decide (r1%2=0)=false:=decide_eq_false q1
  clear q1
  go_enter Tryz.func98,Tryz.ntmps98
  go_wp2_with fail
  go_ret
  exact⟨by simp [d1],rfl⟩
 have e1:(((r1:Int)%2) == 0)=true:=by simp; omega
 have f1:(r1:Int)%2=0:=by omega
 have d1:decide (r1%2=0)=true:=decide_eq_true q1
 by_cases q2:r2%2=0
 rotate_left
 ·have e2:(((r2:Int)%2) == 0)=false:=by simp; omega
  have f2:¬ ((r2:Int)%2=0):=by omega
  have d2:decide (r2%2=0)=false:=decide_eq_false q2
  clear q1 q2
  go_enter Tryz.func98,Tryz.ntmps98
  go_wp2_with fail
  go_ret
  exact⟨by simp [d1,d2],rfl⟩
 have e2:(((r2:Int)%2) == 0)=true:=by simp; omega
 have f2:(r2:Int)%2=0:=by omega
 have d2:decide (r2%2=0)=true:=decide_eq_true q2
 by_cases q3:r3%2=0
 rotate_left
 ·have e3:(((r3:Int)%2) == 0)=false:=by simp; omega
  have f3:¬ ((r3:Int)%2=0):=by omega
  have d3:decide (r3%2=0)=false:=decide_eq_false q3
  clear q1 q2 q3
  go_enter Tryz.func98,Tryz.ntmps98
  go_wp2_with fail
  go_ret
  exact⟨by simp [d1,d2,d3],rfl⟩
 have e3:(((r3:Int)%2) == 0)=true:=by simp; omega
 have f3:(r3:Int)%2=0:=by omega
 have d3:decide (r3%2=0)=true:=decide_eq_true q3
 by_cases q4:r4%2=0
 rotate_left
 ·have e4:(((r4:Int)%2) == 0)=false:=by simp; omega
  have f4:¬ ((r4:Int)%2=0):=by omega
  have d4:decide (r4%2=0)=false:=decide_eq_false q4
  clear q1 q2 q3 q4
  go_enter Tryz.func98,Tryz.ntmps98
  go_wp2_with fail
  go_ret
  exact⟨by simp [d1,d2,d3,d4],rfl⟩
 have e4:(((r4:Int)%2) == 0)=true:=by simp; omega
 have f4:(r4:Int)%2=0:=by omega
 have d4:decide (r4%2=0)=true:=decide_eq_true q4
 by_cases q5:r5%2=0
 rotate_left
 ·have e5:(((r5:Int)%2) == 0)=false:=by simp; omega
  have f5:¬ ((r5:Int)%2=0):=by omega
  have d5:decide (r5%2=0)=false:=decide_eq_false q5
  clear q1 q2 q3 q4 q5
  go_enter Tryz.func98,Tryz.ntmps98
  go_wp2_with fail
  go_ret
  exact⟨by simp [d1,d2,d3,d4,d5],rfl⟩
 have e5:(((r5:Int)%2) == 0)=true:=by simp; omega
 have f5:(r5:Int)%2=0:=by omega
 have d5:decide (r5%2=0)=true:=decide_eq_true q5
 clear q1 q2 q3 q4 q5
 go_enter Tryz.func98,Tryz.ntmps98
 go_wp2_with fail
 go_ret
 exact⟨by simp [d1,d2,d3,d4,d5],rfl⟩
end
theorem conv_none (w:World) (c:Nat):(convert 56 9 (.slice none 0 c)).run Tryz.prog w = .ok (.string (txS [])) w:=by kernel_rfl
theorem conv_own {w:World} {B n:Nat} {v:Value} {bs:List Nat} (h:w.ownsRow B 5 1 v n (u8c bs)) (h8:∀ x∈bs,x<256) (hn:bs.length=n):(convert 56 9 v).run Tryz.prog w = .ok (.string (txS bs)) w:=by
 rcases Nat.eq_zero_or_pos n with h0 | h0
 ·subst h0
  have hb:bs=[]:=List.eq_nil_of_length_eq_zero hn
  subst hb
  obtain⟨A,c,rfl⟩:=ownU_val h
  cases A with
  | none=>exact conv_none w c
  | some ad=>exact conv_txA (bs:=[]) (fun x hx=>by cases hx) (fun j hj=>by cases hj)
 ·obtain⟨g,c,rfl,hr,-,-⟩:=Row.of_any h h0
  rw [← hn]
  refine conv_txA h8 (fun j hj=>?_)
  rw [WideShapes.add_plain,Nat.zero_add]
  refine hr.cell ?_
  unfold u8c
  rw [List.getElem?_map,List.getElem?_eq_getElem hj]
  rfl
theorem dbody_any {w:World} {p:HP} {g:Nat} {h:HM} (L:RL w p g h) (o:Nat) (ho:o<4294967296) (hf:h.isF o 2 0=true):Calls Tryz.prog 102 #[.pointer (some ⟨g,0,none⟩),.int .u32 o] w (Told (.string (txS (h.bodyK o))) w):=by
 have HBY:=Lib.hid (L.bytes o ho)
 have hf':=hf
 unfold HM.isF at hf'
 simp only [Bool.and_eq_true,decide_eq_true_eq] at hf'
 obtain⟨hi,h2,-⟩:=hf'
 have HE:=Lib.hid (show h.rbE o=0 by unfold HM.rbE; rw [if_neg (by rw [hi]; decide),if_pos h2])
 have HN:=Lib.hid (show h.bytesN o (h.hd (o / 2)).len=h.bodyK o by unfold HM.bodyK HM.bytesN HM.lenN; rw [if_pos hi])
 have HL:=Lib.hid (show (h.bodyK o).length=(h.hd (o / 2)).len by rw [body_len]; unfold HM.lenN; rw [if_pos hi])
 have H8:=Lib.hid (body_lt h o)
 clear L hf hi h2
 go_enter Tryz.func102,Tryz.ntmps102
 go_wp2_with fail
 refine HBY.out.mono ?_
 rintro e w1 ⟨hb1,hc⟩
 have hc2:∃ v,e = .returned (.tuple #[v,.int .i64 0])∧(convert 56 9 v).run Tryz.prog w1 = .ok (.string (txS (h.bodyK o))) w1:=by
  rw [HE.out,HN.out] at hc
  rcases hc with ⟨hc,-⟩ | ⟨-,v,rfl,hc⟩
  ·exact absurd rfl hc
  ·exact ⟨v,rfl,conv_own hc H8.out HL.out⟩
 obtain⟨v,rfl,hcv⟩:=hc2
 have HB:=Lib.hid hb1
 clear hb1 hc HBY HE HN HL H8
 generalize txS (h.bodyK o)=t at *
 go_wp2_with fail
 go_ret
 exact⟨rfl,HB.out⟩
end
section
open Go.RowKit
attribute [local go_sem] Oper.semAt_some
theorem below_growK {B:Nat} {w w1 w2:World} {row:Option Nat} (hb:Below B w w1) (hg:w1.grownBy w2 row) (hr:∀ q,row=some q→B≤q) (hB:B≤w1.heap.size):Below B w w2:=
 ⟨hg.os.trans hb.os,hg.tape.trans hb.tape,hg.output.trans hb.output,Nat.le_trans hb.size hg.size,fun j hj=>(hg.block j (by omega) (fun e=>by have:=hr j e.symm; omega)).trans (hb.block j hj)⟩
def OopsP (l:List Nat) (w:World) (e:Ending) (w':World):Prop:=
 Below w.heap.size w w'∧∃ v,e = .returned v∧w'.ownsRow w.heap.size 38 1 v l.length (u32s l)
theorem ent_eq {h:HM} {a n:Nat} (hp:h.ptrsK a 0=true) (hn:n=h.sizK a) {k:Nat} (hk:k≤n) (hne:∀ j,j<k→h.readN a (j:Nat) [1,4]≠h.rt 0) (h1:k=n∨h.readN a (k:Nat) [1,4]=h.rt 0):h.entK a=(List.range k).map fun i:Nat=>h.readN a i [1,4]:=by
 subst hn
 unfold HM.entK
 rw [if_pos hp,tw_split hne hk]
 have:((((List.range (h.sizK a)).map fun i:Nat=>h.readN a i [1,4]).drop k).takeWhile (· ≠h.rt 0))=[]:=by
  rcases h1 with rfl | h1
  ·rw [List.drop_of_length_le (by simp)]; rfl
  ·rcases Nat.lt_or_ge k (h.sizK a) with q | q
   ·rw [drop_at q,List.takeWhile_cons_of_neg (by simp [h1])]
   ·rw [List.drop_of_length_le (by simpa using q)]; rfl
 rw [this,List.append_nil]
section
variable {w:World} {p:HP} {g:Nat} {h:HM} (L:RL w p g h)
include L
set_option maxRecDepth 100000 in
set_option maxHeartbeats 8000000 in
theorem dentries_any (r:Nat) (hr:r<64):Calls Tryz.prog 99 #[.pointer (some ⟨g,0,none⟩),.int .i64 r] w (OopsP (h.entK (h.rt r)) w):=by
 have f0:=fld0
 have HR0:=Lib.hid (fun (w1:World) (hb:Below w.heap.size w w1)=>(L.below hb).roots)
 obtain⟨gr,cr,c2,cr0⟩:=L.roots
 have cr1:=cr0 r hr
 have ha:=L.fit.root r
 obtain⟨a,haa⟩ :∃ a,a=h.rt r:=⟨_,rfl⟩
 have ha2:a<4294967296:=by rw [haa]; exact ha
 rw [← haa] at cr1
 rw [← haa]
 have HI:=Lib.hid (dis_any L a ha2 1 0 (by omega) (by omega))
 have HG:=Lib.hid (fun (w1:World) (hb:Below w.heap.size w w1) (i:Nat) (hi:i≤100000)=>dget_any (L.below hb) a ha2 i (by omega))
 have HHD:=Lib.hid (fun (hi:h.isB a=true) (w1:World) (hb:Below w.heap.size w w1)=>(L.below hb).header a ha2 hi)
 have HEQ:=Lib.hid (fun (hp:h.ptrsK a 0=true) (n k:Nat) (hn:n=h.sizK a) (hk:k≤n) hne h1=>ent_eq (k:=k) hp hn hk hne h1)
 have HSZ:=Lib.hid (fun (hi:h.isB a=true)=>show (h.hd (a / 2)).size≤65535 from by obtain⟨l,G⟩:=L.good; exact size_le G hi)
 have HNO:=Lib.hid (fun (hp:h.ptrsK a 0=false)=>show h.entK a=[] from by unfold HM.entK; rw [if_neg (by rw [hp]; decide)])
 have HNL:=Lib.hid (show ∃ z,z=h.rt 0 from⟨_,rfl⟩)
 have HRW:=Lib.hid (fun (w1:World) (hb:Below w.heap.size w w1)=>show ∃ gr cr,w1.cell? ⟨g,2,none⟩=some (.slice (some ⟨gr,0,none⟩) 64 cr)∧w1.cell? ⟨gr,0,none⟩=some (.int .u32 ((h.rt 0:Nat):Int)) from by
  obtain⟨gr,cr,c2,cr0⟩:=(L.below hb).roots
  exact⟨gr,cr,c2,cr0 0 (by omega)⟩)
 obtain⟨i0,hi0,hz0,hz1,hz2⟩:=info_parts info_oop
 clear L haa ha cr0 HR0 HNL
 go_enter Tryz.func99,Tryz.ntmps99
 go_wp2_with fail
 refine HI.out.mono ?_
 rw [isF_ptrs]
 rintro e w1 ⟨rfl,hb1⟩
 have HB1:=Lib.hid hb1
 clear hb1 HI c2 cr1
 cases hp:h.ptrsK a 0 with
 | false=>
   have HE:=Lib.hid (HNO.out hp)
   clear HEQ HSZ HNO HHD HG HRW hp
   go_wp2_with fail
   go_ret
   rw [HE.out]
   exact⟨HB1.out,_,rfl,rfl,.inl ⟨rfl,rfl⟩⟩
 | true =>
   obtain⟨q1,q2,q3,q4⟩:=sizK_of hp
   have HH:=Lib.hid (HHD.out q1)
   have hs65:=HSZ.out q1
   have HEN:=Lib.hid (fun k=>HEQ.out hp (h.hd (a / 2)).size k q4.symm)
   clear HEQ HSZ HNO HHD hp q1 q2 q3 q4
   generalize h.rt 0=nil0 at *
   generalize h.hd (a / 2)=x at *
   obtain⟨n,fm,sp,cl,se⟩:=x
   simp only at hs65 HEN
   go_wp2_with fail
   go_loopw [5,7] (fun sv iv wr=>∃ (k:Nat),iv = .int .i64 k∧k≤n∧(∀ j,j<k→h.readN a (j:Nat) [1,4]≠nil0)∧Below w.heap.size w wr∧wr.ownsRow w.heap.size 38 1 sv k (u32s ((List.range k).map fun i:Nat=>h.readN a i [1,4]))) (fun _ iv _=>n-(intOf iv).toNat)
   case atStart=>exact⟨0,rfl,Nat.zero_le _,(fun j hj=>absurd hj (by omega)),HB1.out,rfl,.inl ⟨rfl,rfl⟩⟩
   case round=>
    clear HB1
    obtain⟨k,rfl,hk,hne,hb,hown⟩:=hrel
    have HNE:=Lib.hid hne
    have HB:=Lib.hid hb
    have HOW:=Lib.hid hown
    have HBD:=Lib.hid (below_drew hb)
    have HGK:=Lib.hid (fun (w1:World) (hb:Below w.heap.size w w1)=>HG.out w1 hb k (by omega))
    have HH0:=Lib.hid (HH.out wr.drew HBD.out)
    have HOD:=Lib.hid (ownsRow_grown hown (below_drew (Below.refl _ _)))
    clear hne hb hown HG
    by_cases hkn:k<n
    ·have hd:decide ((k:Int)<(n:Int))=true:=by simp; omega
     obtain⟨v,hv⟩ :∃ v,v=h.readN a (k:Nat) [1,4]:=⟨_,rfl⟩
     have HV:=Lib.hid hv
     rw [← hv] at HGK
     clear hv
     by_cases hvn:v=nil0
     ·have HE:=Lib.hid (HEN.out k hk HNE.out (.inr (by rw [← HV.out]; exact hvn)))
      have hq:((v:Int) != (nil0:Int))=false:=by rw [hvn]; simp
      have hqi:(v:Int)=(nil0:Int):=by omega
      clear HEN HNE HV hvn HB HOW
      go_upto_region 6 with fail
      obtain⟨gr,cr,e1,e2⟩:=HRW.out _ HBD.out
      have HST:=Lib.hid (show ∀ (w2:World) (hb:Below wr.drew.heap.size wr.drew w2),w2.cell? ⟨g,2,none⟩=some (.slice (some ⟨gr,0,none⟩) 64 cr)∧w2.cell? ⟨gr,0,none⟩=some (.int .u32 (nil0:Nat)) from fun w2 hb=>⟨(World.cell?_of_block (hb.block _ (World.block_lt_of_cell? _ _ e1))).trans e1,(World.cell?_of_block (hb.block _ (World.block_lt_of_cell? _ _ e2))).trans e2⟩)
      have hS:wr.drew.cell? ⟨g,2,none⟩=some (.slice (some ⟨gr,0,none⟩) 64 cr)∧wr.drew.cell? ⟨gr,0,none⟩=some (.int .u32 (nil0:Nat)):=⟨e1,e2⟩
      clear e1 e2 HRW
      refine wp_region_U 18 (fun w'=>w'.cell? ⟨g,2,none⟩=some (.slice (some ⟨gr,0,none⟩) 64 cr)∧w'.cell? ⟨gr,0,none⟩=some (.int .u32 (nil0:Nat))) (by kernel_rfl) ?_
      refine U_readC 0 [5,6,18] (v:=(.int .i64 k)) rfl (by kernel_rfl) (fun _ _ _ h=>h) hS (by kernel_rfl) (fun w' hw'=>by obtain⟨h0,h1⟩:=hw'; go_simp) ?_
      try simp only [Act.put,List.setIfInBounds_toArray,List.set_cons_zero,List.set_cons_succ]
      refine U_readC 1 [3,4,5,6,18] (v:=(.pointer (some ⟨g,0,none⟩))) rfl (by kernel_rfl) (fun _ _ _ h=>h) hS (by kernel_rfl) (fun w' hw'=>by obtain⟨h0,h1⟩:=hw'; go_simp) ?_
      try simp only [Act.put,List.setIfInBounds_toArray,List.set_cons_zero,List.set_cons_succ]
      refine U_readC 2 [3,4,5,6,18] (v:=(.int .u32 (a:Nat))) rfl (by kernel_rfl) (fun _ _ _ h=>h) hS (by kernel_rfl) (fun w' hw'=>by obtain⟨h0,h1⟩:=hw'; go_simp) ?_
      try simp only [Act.put,List.setIfInBounds_toArray,List.set_cons_zero,List.set_cons_succ]
      refine U_one 3 (by kernel_rfl) rfl rfl (fun K hK=>?_)
      go_simp
      refine HH0.out.mono ?_
      rintro e w2 ⟨rfl,hb2⟩
      unfold Hd.val
      have HB2:=Lib.hid (below_top HBD.out hb2)
      have HO2:=Lib.hid (ownsRow_grown HOD.out hb2)
      have HQ2:=Lib.hid hb2
      have hS2:=HST.out w2 hb2
      clear hb2 HH0 HBD HOD
      refine hK _ _ (fun _=>hS2) ?_
      clear hK K
      try simp only [Act.put,List.setIfInBounds_toArray,List.set_cons_zero,List.set_cons_succ]
      clear hS
      have hS:=hS2
      refine U_readC 4 [5,6,18] (v:=(.int .i64 (n:Nat))) rfl (by kernel_rfl) (fun _ _ _ h=>h) hS (by kernel_rfl) (fun w' hw'=>by obtain⟨h0,h1⟩:=hw'; go_simp) ?_
      try simp only [Act.put,List.setIfInBounds_toArray,List.set_cons_zero,List.set_cons_succ]
      refine U_readC 5 [6,18] (v:=(.bool true)) rfl (by kernel_rfl) (fun _ _ _ h=>h) hS (by kernel_rfl) (fun w' hw'=>by obtain⟨h0,h1⟩:=hw'; go_simp) ?_
      try simp only [Act.put,List.setIfInBounds_toArray,List.set_cons_zero,List.set_cons_succ]
      refine U_readC 6 [18] (v:=(.bool true)) rfl (by kernel_rfl) (fun _ _ _ h=>h) hS (by kernel_rfl) (fun w' hw'=>by obtain⟨h0,h1⟩:=hw'; go_simp) ?_
      try simp only [Act.put,List.setIfInBounds_toArray,List.set_cons_zero,List.set_cons_succ]
      refine U_readC 7 [10,17,18] (v:=(.pointer (some ⟨g,0,none⟩))) rfl (by kernel_rfl) (fun _ _ _ h=>h) hS (by kernel_rfl) (fun w' hw'=>by obtain⟨h0,h1⟩:=hw'; go_simp) ?_
      try simp only [Act.put,List.setIfInBounds_toArray,List.set_cons_zero,List.set_cons_succ]
      refine U_readC 8 [10,17,18] (v:=(.int .u32 (a:Nat))) rfl (by kernel_rfl) (fun _ _ _ h=>h) hS (by kernel_rfl) (fun w' hw'=>by obtain⟨h0,h1⟩:=hw'; go_simp) ?_
      try simp only [Act.put,List.setIfInBounds_toArray,List.set_cons_zero,List.set_cons_succ]
      refine U_readC 9 [10,17,18] (v:=(.int .i64 k)) rfl (by kernel_rfl) (fun _ _ _ h=>h) hS (by kernel_rfl) (fun w' hw'=>by obtain⟨h0,h1⟩:=hw'; go_simp) ?_
      try simp only [Act.put,List.setIfInBounds_toArray,List.set_cons_zero,List.set_cons_succ]
      refine U_readC 11 [12,13,14,15,16,17,18] (v:=(.pointer (some ⟨g,0,none⟩))) rfl (by kernel_rfl) (fun _ _ _ h=>h) hS (by kernel_rfl) (fun w' hw'=>by obtain⟨h0,h1⟩:=hw'; go_simp) ?_
      try simp only [Act.put,List.setIfInBounds_toArray,List.set_cons_zero,List.set_cons_succ]
      refine U_readC 12 [13,14,15,16,17,18] (v:=(.pointer (some ⟨g,0,none⟩))) rfl (by kernel_rfl) (fun _ _ _ h=>h) hS (by kernel_rfl) (fun w' hw'=>by obtain⟨h0,h1⟩:=hw'; go_simp) ?_
      try simp only [Act.put,List.setIfInBounds_toArray,List.set_cons_zero,List.set_cons_succ]
      refine U_readC 13 [14,15,16,17,18] (v:=(.pointer (some ⟨g,2,none⟩))) rfl (by kernel_rfl) (fun _ _ _ h=>h) hS (by kernel_rfl) (fun w' hw'=>by obtain⟨h0,h1⟩:=hw'; go_simp) ?_
      try simp only [Act.put,List.setIfInBounds_toArray,List.set_cons_zero,List.set_cons_succ]
      refine U_readC 14 [15,16,17,18] (v:=(.slice (some ⟨gr,0,none⟩) 64 cr)) rfl (by kernel_rfl) (fun _ _ _ h=>h) hS (by kernel_rfl) (fun w' hw'=>by obtain⟨h0,h1⟩:=hw'; go_simp) ?_
      try simp only [Act.put,List.setIfInBounds_toArray,List.set_cons_zero,List.set_cons_succ]
      refine U_readC 15 [16,17,18] (v:=(.pointer (some ⟨gr,0,none⟩))) rfl (by kernel_rfl) (fun _ _ _ h=>h) hS (by kernel_rfl) (fun w' hw'=>by obtain⟨h0,h1⟩:=hw'; go_simp) ?_
      try simp only [Act.put,List.setIfInBounds_toArray,List.set_cons_zero,List.set_cons_succ]
      refine U_readC 16 [17,18] (v:=(.int .u32 (nil0:Nat))) rfl (by kernel_rfl) (fun _ _ _ h=>h) hS (by kernel_rfl) (fun w' hw'=>by obtain⟨h0,h1⟩:=hw'; go_simp) ?_
      try simp only [Act.put,List.setIfInBounds_toArray,List.set_cons_zero,List.set_cons_succ]
      refine U_oneG 10 (by kernel_rfl) rfl (by kernel_rfl) (fun K hK=>?_)
      go_simp
      refine (HGK.out w2 HB2.out).mono ?_
      rintro e w3 ⟨rfl,hb3⟩
      have HB3:=Lib.hid (below_top HB2.out hb3)
      have HO3:=Lib.hid (ownsRow_grown HO2.out hb3)
      have hS3:=HST.out w3 (below_top HQ2.out hb3)
      clear hb3 HB2 HO2
      refine hK _ _ (fun _=>hS3) ?_
      clear hK K
      try simp only [Act.put,List.setIfInBounds_toArray,List.set_cons_zero,List.set_cons_succ]
      clear hS
      have hS:=hS3
      refine U_readC 17 [18] (v:=(.bool false)) rfl (by kernel_rfl) (fun _ _ _ h=>h) hS (by kernel_rfl) (fun w' hw'=>by obtain⟨h0,h1⟩:=hw'; go_simp) ?_
      try simp only [Act.put,List.setIfInBounds_toArray,List.set_cons_zero,List.set_cons_succ]
      refine U_one 18 (by kernel_rfl) rfl rfl (fun K hK=>?_)
      go_simp
      refine hK _ _ (fun h=>absurd h (by decide)) ?_
      clear hK K
      try simp only [Act.put,List.setIfInBounds_toArray,List.set_cons_zero,List.set_cons_succ]
      refine U_done (by kernel_rfl) ?_ _
      simp only [Calm,Exit.then]
      clear hS
      go_wp2_with fail
      go_ret
      rw [HE.out]
      exact⟨HB3.out,_,rfl,by rw [List.length_map,List.length_range]; exact HO3.out⟩
     ·have hq:((v:Int) != (nil0:Int))=true:=by simp; omega
      have hqi:¬ ((v:Int)=(nil0:Int)):=by omega
      have HN2:=Lib.hid (show ∀ j,j<k+1→h.readN a (j:Nat) [1,4]≠nil0 from fun j hj=>by
       rcases Nat.lt_or_ge j k with q | q
       ·exact HNE.out j q
       ·obtain rfl:j=k:=by omega
        rw [← HV.out]; exact hvn)
      clear HEN HNE hvn HB HOW
      go_upto_region 6 with fail
      obtain⟨gr,cr,e1,e2⟩:=HRW.out _ HBD.out
      have HST:=Lib.hid (show ∀ (w2:World) (hb:Below wr.drew.heap.size wr.drew w2),w2.cell? ⟨g,2,none⟩=some (.slice (some ⟨gr,0,none⟩) 64 cr)∧w2.cell? ⟨gr,0,none⟩=some (.int .u32 (nil0:Nat)) from fun w2 hb=>⟨(World.cell?_of_block (hb.block _ (World.block_lt_of_cell? _ _ e1))).trans e1,(World.cell?_of_block (hb.block _ (World.block_lt_of_cell? _ _ e2))).trans e2⟩)
      have hS:wr.drew.cell? ⟨g,2,none⟩=some (.slice (some ⟨gr,0,none⟩) 64 cr)∧wr.drew.cell? ⟨gr,0,none⟩=some (.int .u32 (nil0:Nat)):=⟨e1,e2⟩
      clear e1 e2 HRW
      refine wp_region_U 18 (fun w'=>w'.cell? ⟨g,2,none⟩=some (.slice (some ⟨gr,0,none⟩) 64 cr)∧w'.cell? ⟨gr,0,none⟩=some (.int .u32 (nil0:Nat))) (by kernel_rfl) ?_
      refine U_readC 0 [5,6,18] (v:=(.int .i64 k)) rfl (by kernel_rfl) (fun _ _ _ h=>h) hS (by kernel_rfl) (fun w' hw'=>by obtain⟨h0,h1⟩:=hw'; go_simp) ?_
      try simp only [Act.put,List.setIfInBounds_toArray,List.set_cons_zero,List.set_cons_succ]
      refine U_readC 1 [3,4,5,6,18] (v:=(.pointer (some ⟨g,0,none⟩))) rfl (by kernel_rfl) (fun _ _ _ h=>h) hS (by kernel_rfl) (fun w' hw'=>by obtain⟨h0,h1⟩:=hw'; go_simp) ?_
      try simp only [Act.put,List.setIfInBounds_toArray,List.set_cons_zero,List.set_cons_succ]
      refine U_readC 2 [3,4,5,6,18] (v:=(.int .u32 (a:Nat))) rfl (by kernel_rfl) (fun _ _ _ h=>h) hS (by kernel_rfl) (fun w' hw'=>by obtain⟨h0,h1⟩:=hw'; go_simp) ?_
      try simp only [Act.put,List.setIfInBounds_toArray,List.set_cons_zero,List.set_cons_succ]
      refine U_one 3 (by kernel_rfl) rfl rfl (fun K hK=>?_)
      go_simp
      refine HH0.out.mono ?_
      rintro e w2 ⟨rfl,hb2⟩
      unfold Hd.val
      have HB2:=Lib.hid (below_top HBD.out hb2)
      have HO2:=Lib.hid (ownsRow_grown HOD.out hb2)
      have HQ2:=Lib.hid hb2
      have hS2:=HST.out w2 hb2
      clear hb2 HH0 HBD HOD
      refine hK _ _ (fun _=>hS2) ?_
      clear hK K
      try simp only [Act.put,List.setIfInBounds_toArray,List.set_cons_zero,List.set_cons_succ]
      clear hS
      have hS:=hS2
      refine U_readC 4 [5,6,18] (v:=(.int .i64 (n:Nat))) rfl (by kernel_rfl) (fun _ _ _ h=>h) hS (by kernel_rfl) (fun w' hw'=>by obtain⟨h0,h1⟩:=hw'; go_simp) ?_
      try simp only [Act.put,List.setIfInBounds_toArray,List.set_cons_zero,List.set_cons_succ]
      refine U_readC 5 [6,18] (v:=(.bool true)) rfl (by kernel_rfl) (fun _ _ _ h=>h) hS (by kernel_rfl) (fun w' hw'=>by obtain⟨h0,h1⟩:=hw'; go_simp) ?_
      try simp only [Act.put,List.setIfInBounds_toArray,List.set_cons_zero,List.set_cons_succ]
      refine U_readC 6 [18] (v:=(.bool true)) rfl (by kernel_rfl) (fun _ _ _ h=>h) hS (by kernel_rfl) (fun w' hw'=>by obtain⟨h0,h1⟩:=hw'; go_simp) ?_
      try simp only [Act.put,List.setIfInBounds_toArray,List.set_cons_zero,List.set_cons_succ]
      refine U_readC 7 [10,17,18] (v:=(.pointer (some ⟨g,0,none⟩))) rfl (by kernel_rfl) (fun _ _ _ h=>h) hS (by kernel_rfl) (fun w' hw'=>by obtain⟨h0,h1⟩:=hw'; go_simp) ?_
      try simp only [Act.put,List.setIfInBounds_toArray,List.set_cons_zero,List.set_cons_succ]
      refine U_readC 8 [10,17,18] (v:=(.int .u32 (a:Nat))) rfl (by kernel_rfl) (fun _ _ _ h=>h) hS (by kernel_rfl) (fun w' hw'=>by obtain⟨h0,h1⟩:=hw'; go_simp) ?_
      try simp only [Act.put,List.setIfInBounds_toArray,List.set_cons_zero,List.set_cons_succ]
      refine U_readC 9 [10,17,18] (v:=(.int .i64 k)) rfl (by kernel_rfl) (fun _ _ _ h=>h) hS (by kernel_rfl) (fun w' hw'=>by obtain⟨h0,h1⟩:=hw'; go_simp) ?_
      try simp only [Act.put,List.setIfInBounds_toArray,List.set_cons_zero,List.set_cons_succ]
      refine U_readC 11 [12,13,14,15,16,17,18] (v:=(.pointer (some ⟨g,0,none⟩))) rfl (by kernel_rfl) (fun _ _ _ h=>h) hS (by kernel_rfl) (fun w' hw'=>by obtain⟨h0,h1⟩:=hw'; go_simp) ?_
      try simp only [Act.put,List.setIfInBounds_toArray,List.set_cons_zero,List.set_cons_succ]
      refine U_readC 12 [13,14,15,16,17,18] (v:=(.pointer (some ⟨g,0,none⟩))) rfl (by kernel_rfl) (fun _ _ _ h=>h) hS (by kernel_rfl) (fun w' hw'=>by obtain⟨h0,h1⟩:=hw'; go_simp) ?_
      try simp only [Act.put,List.setIfInBounds_toArray,List.set_cons_zero,List.set_cons_succ]
      refine U_readC 13 [14,15,16,17,18] (v:=(.pointer (some ⟨g,2,none⟩))) rfl (by kernel_rfl) (fun _ _ _ h=>h) hS (by kernel_rfl) (fun w' hw'=>by obtain⟨h0,h1⟩:=hw'; go_simp) ?_
      try simp only [Act.put,List.setIfInBounds_toArray,List.set_cons_zero,List.set_cons_succ]
      refine U_readC 14 [15,16,17,18] (v:=(.slice (some ⟨gr,0,none⟩) 64 cr)) rfl (by kernel_rfl) (fun _ _ _ h=>h) hS (by kernel_rfl) (fun w' hw'=>by obtain⟨h0,h1⟩:=hw'; go_simp) ?_
      try simp only [Act.put,List.setIfInBounds_toArray,List.set_cons_zero,List.set_cons_succ]
      refine U_readC 15 [16,17,18] (v:=(.pointer (some ⟨gr,0,none⟩))) rfl (by kernel_rfl) (fun _ _ _ h=>h) hS (by kernel_rfl) (fun w' hw'=>by obtain⟨h0,h1⟩:=hw'; go_simp) ?_
      try simp only [Act.put,List.setIfInBounds_toArray,List.set_cons_zero,List.set_cons_succ]
      refine U_readC 16 [17,18] (v:=(.int .u32 (nil0:Nat))) rfl (by kernel_rfl) (fun _ _ _ h=>h) hS (by kernel_rfl) (fun w' hw'=>by obtain⟨h0,h1⟩:=hw'; go_simp) ?_
      try simp only [Act.put,List.setIfInBounds_toArray,List.set_cons_zero,List.set_cons_succ]
      refine U_oneG 10 (by kernel_rfl) rfl (by kernel_rfl) (fun K hK=>?_)
      go_simp
      refine (HGK.out w2 HB2.out).mono ?_
      rintro e w3 ⟨rfl,hb3⟩
      have HB3:=Lib.hid (below_top HB2.out hb3)
      have HO3:=Lib.hid (ownsRow_grown HO2.out hb3)
      have hS3:=HST.out w3 (below_top HQ2.out hb3)
      clear hb3 HB2 HO2
      refine hK _ _ (fun _=>hS3) ?_
      clear hK K
      try simp only [Act.put,List.setIfInBounds_toArray,List.set_cons_zero,List.set_cons_succ]
      clear hS
      have hS:=hS3
      refine U_readC 17 [18] (v:=(.bool true)) rfl (by kernel_rfl) (fun _ _ _ h=>h) hS (by kernel_rfl) (fun w' hw'=>by obtain⟨h0,h1⟩:=hw'; go_simp) ?_
      try simp only [Act.put,List.setIfInBounds_toArray,List.set_cons_zero,List.set_cons_succ]
      refine U_one 18 (by kernel_rfl) rfl rfl (fun K hK=>?_)
      go_simp
      refine hK _ _ (fun h=>absurd h (by decide)) ?_
      clear hK K
      try simp only [Act.put,List.setIfInBounds_toArray,List.set_cons_zero,List.set_cons_succ]
      refine U_done (by kernel_rfl) ?_ _
      simp only [Calm,Exit.then]
      clear hS
      have HG4:=Lib.hid (HGK.out w3 HB3.out)
      go_wp2_with fail
      refine HG4.out.mono ?_
      rintro e w4 ⟨rfl,hb4⟩
      have HB4:=Lib.hid (below_top HB3.out hb4)
      have HO4:=Lib.hid (ownsRow_grown HO3.out hb4)
      clear hb4 HB3 HO3 HG4 HGK HST HQ2
      have hbn:w.heap.size≤w4.heap.size:=HB4.out.size
      go_wp2_with (at_builtin; refine wpList_append_any _ rfl (.tmp 40) (.tmp 45) _ rfl w.heap.size 38 i0 _ 1 4 Tryz.underlying55 hi0 hz0 hz1 hz2 rfl (by omega) u5 k _ rfl (ownU_keep HO4.out (fun q hq=>Below.heap_alloc w4 (.cells #[.int .u32 (v:Int)] 38) q (HO4.out.lt q hq).2)) (w4.heap.size+1) (some ⟨w4.heap.size,0,none⟩) 1 1 (u32s [v]) rfl ⟨rfl,fun _=>⟨_,rfl,by simp,cell_one_new _ _ _⟩⟩ (one_u32s _) (by simp only [maxLen]; omega) (by omega) (by simp; omega) ?_; intro v1 w5 hown5 hgrow5 hat5)
      have HB5:=Lib.hid (below_growK (HB4.out.alloc HB4.out.size (.cells #[.int .u32 (v:Int)] 38)) hgrow5 (fun q hq=>(HO4.out.lt q hq).1) (by simp; omega))
      have HO5:=Lib.hid (show w5.ownsRow w.heap.size 38 1 v1 (k+1) (u32s ((List.range (k+1)).map fun i:Nat=>h.readN a i [1,4])) from by
       rw [List.range_succ,List.map_append,List.map_singleton,← HV.out]
       rw [u32s_snoc] at hown5
       exact hown5)
      clear hown5 hgrow5 hat5 HB4 HO4 HV
      go_wp2_with fail
      go_roundw
      case rel=>exact⟨k+1,by go_num,by omega,HN2.out,HB5.out,HO5.out⟩
      case measure=>simp [intOf]; omega
    ·obtain rfl:k=n:=by omega
     have hd:decide ((k:Int)<(k:Int))=false:=by simp
     have HE:=Lib.hid (HEN.out k hk HNE.out (.inl rfl))
     clear HEN HNE HGK HB HOW
     go_upto_region 6 with fail
     obtain⟨gr,cr,e1,e2⟩:=HRW.out _ HBD.out
     have HST:=Lib.hid (show ∀ (w2:World) (hb:Below wr.drew.heap.size wr.drew w2),w2.cell? ⟨g,2,none⟩=some (.slice (some ⟨gr,0,none⟩) 64 cr)∧w2.cell? ⟨gr,0,none⟩=some (.int .u32 (nil0:Nat)) from fun w2 hb=>⟨(World.cell?_of_block (hb.block _ (World.block_lt_of_cell? _ _ e1))).trans e1,(World.cell?_of_block (hb.block _ (World.block_lt_of_cell? _ _ e2))).trans e2⟩)
     have hS:wr.drew.cell? ⟨g,2,none⟩=some (.slice (some ⟨gr,0,none⟩) 64 cr)∧wr.drew.cell? ⟨gr,0,none⟩=some (.int .u32 (nil0:Nat)):=⟨e1,e2⟩
     clear e1 e2 HRW
     refine wp_region_U 18 (fun w'=>w'.cell? ⟨g,2,none⟩=some (.slice (some ⟨gr,0,none⟩) 64 cr)∧w'.cell? ⟨gr,0,none⟩=some (.int .u32 (nil0:Nat))) (by kernel_rfl) ?_
     refine U_readC 0 [5,6,18] (v:=(.int .i64 k)) rfl (by kernel_rfl) (fun _ _ _ h=>h) hS (by kernel_rfl) (fun w' hw'=>by obtain⟨h0,h1⟩:=hw'; go_simp) ?_
     try simp only [Act.put,List.setIfInBounds_toArray,List.set_cons_zero,List.set_cons_succ]
     refine U_readC 1 [3,4,5,6,18] (v:=(.pointer (some ⟨g,0,none⟩))) rfl (by kernel_rfl) (fun _ _ _ h=>h) hS (by kernel_rfl) (fun w' hw'=>by obtain⟨h0,h1⟩:=hw'; go_simp) ?_
     try simp only [Act.put,List.setIfInBounds_toArray,List.set_cons_zero,List.set_cons_succ]
     refine U_readC 2 [3,4,5,6,18] (v:=(.int .u32 (a:Nat))) rfl (by kernel_rfl) (fun _ _ _ h=>h) hS (by kernel_rfl) (fun w' hw'=>by obtain⟨h0,h1⟩:=hw'; go_simp) ?_
     try simp only [Act.put,List.setIfInBounds_toArray,List.set_cons_zero,List.set_cons_succ]
     refine U_one 3 (by kernel_rfl) rfl rfl (fun K hK=>?_)
     go_simp
     refine HH0.out.mono ?_
     rintro e w2 ⟨rfl,hb2⟩
     unfold Hd.val
     have HB2:=Lib.hid (below_top HBD.out hb2)
     have HO2:=Lib.hid (ownsRow_grown HOD.out hb2)
     have HQ2:=Lib.hid hb2
     have hS2:=HST.out w2 hb2
     clear hb2 HH0 HBD HOD
     refine hK _ _ (fun _=>hS2) ?_
     clear hK K
     try simp only [Act.put,List.setIfInBounds_toArray,List.set_cons_zero,List.set_cons_succ]
     clear hS
     have hS:=hS2
     refine U_readC 4 [5,6,18] (v:=(.int .i64 (k:Nat))) rfl (by kernel_rfl) (fun _ _ _ h=>h) hS (by kernel_rfl) (fun w' hw'=>by obtain⟨h0,h1⟩:=hw'; go_simp) ?_
     try simp only [Act.put,List.setIfInBounds_toArray,List.set_cons_zero,List.set_cons_succ]
     refine U_readC 5 [6,18] (v:=(.bool false)) rfl (by kernel_rfl) (fun _ _ _ h=>h) hS (by kernel_rfl) (fun w' hw'=>by obtain⟨h0,h1⟩:=hw'; go_simp) ?_
     try simp only [Act.put,List.setIfInBounds_toArray,List.set_cons_zero,List.set_cons_succ]
     refine U_readC 6 [18] (v:=(.bool false)) rfl (by kernel_rfl) (fun _ _ _ h=>h) hS (by kernel_rfl) (fun w' hw'=>by obtain⟨h0,h1⟩:=hw'; go_simp) ?_
     try simp only [Act.put,List.setIfInBounds_toArray,List.set_cons_zero,List.set_cons_succ]
     refine U_skipG 7 [10,17,18] rfl (by kernel_rfl) (fun _ _ _ h=>h) hS (by kernel_rfl) ?_
     try simp only [Act.put,List.setIfInBounds_toArray,List.set_cons_zero,List.set_cons_succ]
     refine U_skipG 8 [10,17,18] rfl (by kernel_rfl) (fun _ _ _ h=>h) hS (by kernel_rfl) ?_
     try simp only [Act.put,List.setIfInBounds_toArray,List.set_cons_zero,List.set_cons_succ]
     refine U_skipG 9 [10,17,18] rfl (by kernel_rfl) (fun _ _ _ h=>h) hS (by kernel_rfl) ?_
     try simp only [Act.put,List.setIfInBounds_toArray,List.set_cons_zero,List.set_cons_succ]
     refine U_skipG 10 [17,18] rfl (by kernel_rfl) (fun _ _ _ h=>h) hS (by kernel_rfl) ?_
     try simp only [Act.put,List.setIfInBounds_toArray,List.set_cons_zero,List.set_cons_succ]
     refine U_skipG 11 [12,13,14,15,16,17,18] rfl (by kernel_rfl) (fun _ _ _ h=>h) hS (by kernel_rfl) ?_
     try simp only [Act.put,List.setIfInBounds_toArray,List.set_cons_zero,List.set_cons_succ]
     refine U_skipG 12 [13,14,15,16,17,18] rfl (by kernel_rfl) (fun _ _ _ h=>h) hS (by kernel_rfl) ?_
     try simp only [Act.put,List.setIfInBounds_toArray,List.set_cons_zero,List.set_cons_succ]
     refine U_skipG 13 [14,15,16,17,18] rfl (by kernel_rfl) (fun _ _ _ h=>h) hS (by kernel_rfl) ?_
     try simp only [Act.put,List.setIfInBounds_toArray,List.set_cons_zero,List.set_cons_succ]
     refine U_skipG 14 [15,16,17,18] rfl (by kernel_rfl) (fun _ _ _ h=>h) hS (by kernel_rfl) ?_
     try simp only [Act.put,List.setIfInBounds_toArray,List.set_cons_zero,List.set_cons_succ]
     refine U_skipG 15 [16,17,18] rfl (by kernel_rfl) (fun _ _ _ h=>h) hS (by kernel_rfl) ?_
     try simp only [Act.put,List.setIfInBounds_toArray,List.set_cons_zero,List.set_cons_succ]
     refine U_skipG 16 [17,18] rfl (by kernel_rfl) (fun _ _ _ h=>h) hS (by kernel_rfl) ?_
     try simp only [Act.put,List.setIfInBounds_toArray,List.set_cons_zero,List.set_cons_succ]
     refine U_skipG 17 [18] rfl (by kernel_rfl) (fun _ _ _ h=>h) hS (by kernel_rfl) ?_
     try simp only [Act.put,List.setIfInBounds_toArray,List.set_cons_zero,List.set_cons_succ]
     refine U_one 18 (by kernel_rfl) rfl rfl (fun K hK=>?_)
     go_simp
     refine hK _ _ (fun h=>absurd h (by decide)) ?_
     clear hK K
     try simp only [Act.put,List.setIfInBounds_toArray,List.set_cons_zero,List.set_cons_succ]
     refine U_done (by kernel_rfl) ?_ _
     simp only [Calm,Exit.then]
     clear hS
     go_wp2_with fail
     go_ret
     rw [HE.out]
     exact⟨HB2.out,_,rfl,by rw [List.length_map,List.length_range]; exact HO2.out⟩
end
end
end Go.Proofs.YtdoahpflemgaeaaGreatDoor
