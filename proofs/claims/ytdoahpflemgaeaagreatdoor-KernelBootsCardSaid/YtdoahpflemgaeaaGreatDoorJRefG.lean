import Derived.Test.YtdoahpflemgaeaaGreatDoorJNKp
import Derived.Test.YtdoahpflemgaeaaGreatDoorJZeros
import Derived.Test.YtdoahpflemgaeaaGreatDoorJAlloc
import Derived.Test.YtdoahpflemgaeaaGreatDoorJLive
import Derived.StillTailTactics
import Derived.Deep.RegionLaw
set_option linter.unusedVariables false
set_option linter.unusedSimpArgs false
set_option linter.unusedSectionVars false
namespace Go.Proofs.YtdoahpflemgaeaaGreatDoor
section
open Go.RowKit
theorem look_at {h:HM} (hh:h.Heads) {o:Nat} {i:Int} {F:Nat} {fs:List Nat} (hF:(F=1∧fs=[1,4])∨(F=2∧fs=[2])∨(F=3∧fs=[3])) (he:h.lookE o i fs=0):
 ∃ k:Nat,i=k∧o / 2+3+(if F=2 then k / 4 else k)<h.words.length:=by
 obtain⟨hi,hc,h0,hlt⟩:=HM.look_ok he
 have hd:=(HM.isB_hd hh hi).1
 obtain⟨k,rfl⟩:=Int.eq_ofNat_of_zero_le h0
 refine⟨k,rfl,?_⟩
 unfold Hd.len at hlt
 rcases hF with ⟨rfl,rfl⟩ | ⟨rfl,rfl⟩ | ⟨rfl,rfl⟩
 ·rw [if_neg (fun e=>by rw [e] at hc; simp at hc)] at hlt
  rw [if_neg (by omega)]; omega
 ·rw [if_pos (by simpa using hc)] at hlt
  rw [if_pos rfl]; omega
 ·rw [if_neg (fun e=>by rw [e] at hc; simp at hc)] at hlt
  rw [if_neg (by omega)]; omega
theorem HM.placeV_no {h:HM} {o F:Nat} {i:Int} {fs:List Nat} (he:h.lookE o i fs≠0):h.placeV o i F fs = .tuple #[.int .i64 0,.int .i64 (h.lookE o i fs)]:=by
 unfold HM.placeV; rw [if_neg he]; rfl
theorem HM.placeV_at {h:HM} {o F k:Nat} {fs:List Nat} (he:h.lookE o k fs=0):h.placeV o k F fs = .tuple #[.int .i64 ((o / 2+3+(if F=2 then k / 4 else k):Nat):Int),.int .i64 0]:=by
 unfold HM.placeV; rw [if_pos he,he,Int.toNat_natCast]; rfl
def RDeeds (p:HP) (h':HM) (E:Nat) (w:World) (e:Ending) (w':World):Prop:=e = .returned (.int .i64 E)∧RAt w' p h'∧Step p p w w'
section
variable {w:World} {p:HP} {h:HM} (R:RAt w p h) (f:h.Fit) (hh:h.Heads) (o:Nat) (ho:o<4294967296) (i:Int) (hi63:i≤9223372036854775807)
include R f hh ho hi63
set_option maxRecDepth 100000 in
theorem rget_any:Calls Tryz.prog 143 #[ptr p.g,.int .u32 o,.int .i64 i] w (Told (.tuple #[.int .u32 (h.readN o i [1,4]:Nat),.int .i64 (h.lookE o i [1,4]:Nat)]) w):=by
 have HP:=Lib.hid (rplace_any R f o ho hh i 1 [1,4] (by decide) hi63)
 have hle:=h.lookE_lt o i [1,4]
 by_cases he:h.lookE o i [1,4]=0
 ·obtain⟨k,rfl,hk⟩:=look_at hh (F:=1) (fs:=[1,4]) (by decide) he
  rw [HM.placeV_at he] at HP
  simp only [Nat.reduceEqDiff,if_false] at HP hk
  have HN:=Lib.hid (show h.readN o k [1,4]=fw h o k by unfold HM.readN; rw [if_pos he]; rfl)
  have HC:=Lib.hid (show ∀ w',Below w.heap.size w w'→w'.cell? ⟨p.g,1,none⟩=some (.slice (some ⟨p.gw,0,none⟩) h.words.length p.cw)∧w'.cell? ⟨p.gw,o / 2+3+k,none⟩=some (.int .u32 (fw h o k:Nat)) from fun w' hb=>⟨(R.below hb).c1,(R.below hb).word hk⟩)
  have hmx:=f.room
  have hmx2:=f.hi
  rw [HN.out,he]
  clear he hle HN R f hh
  generalize fw h o k=v at *
  generalize o / 2+3+k=q at *
  generalize h.words.length=len at *
  unfold ptr at HP ⊢
  go_enter Tryz.func143,Tryz.ntmps143
  go_wp2_with fail
  refine HP.out.mono ?_
  rintro e w1 ⟨rfl,hb⟩
  obtain⟨c1,cv⟩:=HC.out _ hb
  go_wp2_with fail
  go_ret2
  exact⟨rfl,hb⟩
 ·have hne:((h.lookE o i [1,4]:Int) != 0)=true:=by simp; omega
  rw [HM.placeV_no he] at HP
  have HN:=Lib.hid (show h.readN o i [1,4]=0 by unfold HM.readN; rw [if_neg he])
  rw [HN.out]
  generalize h.lookE o i [1,4]=E at *
  clear he HN
  unfold ptr at HP ⊢
  go_enter Tryz.func143,Tryz.ntmps143
  go_wp2_with fail
  refine HP.out.mono ?_
  rintro e w1 ⟨rfl,hb⟩
  go_wp2_with fail
  go_ret2
  exact⟨rfl,hb⟩
set_option maxRecDepth 100000 in
set_option maxHeartbeats 2000000 in
theorem rbyte_any:Calls Tryz.prog 159 #[ptr p.g,.int .u32 o,.int .i64 i] w (Told (.tuple #[.int .u8 (h.byteN o i:Nat),.int .i64 (h.lookE o i [2]:Nat)]) w):=by
 have HP:=Lib.hid (rplace_any R f o ho hh i 2 [2] (by decide) hi63)
 have hle:=h.lookE_lt o i [2]
 by_cases he:h.lookE o i [2]=0
 ·obtain⟨k,rfl,hk⟩:=look_at hh (F:=2) (fs:=[2]) (by decide) he
  rw [HM.placeV_at he] at HP
  simp only [if_true] at HP hk
  have HN:=Lib.hid (show h.byteN o k=byteOf (fw h o (k / 4)) (k%4) by unfold HM.byteN; rw [if_pos he]; rfl)
  have HC:=Lib.hid (show ∀ w',Below w.heap.size w w'→w'.cell? ⟨p.g,1,none⟩=some (.slice (some ⟨p.gw,0,none⟩) h.words.length p.cw)∧w'.cell? ⟨p.gw,o / 2+3+k / 4,none⟩=some (.int .u32 (fw h o (k / 4):Nat)) from fun w' hb=>⟨(R.below hb).c1,(R.below hb).word hk⟩)
  have hmx:=f.room
  have hmx2:=f.hi
  have hv:fw h o (k / 4)<4294967296:=f.word _
  rw [HN.out,he]
  clear he hle HN R f hh
  generalize fw h o (k / 4)=v at *
  generalize o / 2+3+k / 4=q at *
  generalize h.words.length=len at *
  unfold ptr at HP ⊢
  rcases (by omega:k%4=0∨k%4=1∨k%4=2∨k%4=3) with hr | hr | hr | hr
  all_goals
   have hmod:(k:Int)%4=((k%4:Nat):Int):=by omega
   rw [hr] at hmod
   have HFIN:=Lib.hid (show ((byteOf v (k%4):Nat):Int)=(v:Int) / ((2 ^ (8*(k%4)):Nat):Int)%256 by unfold byteOf; simp)
   rw [hr] at HFIN
   rw [hr]
   clear hr
   go_enter Tryz.func159,Tryz.ntmps159
   go_wp2_with fail
   refine HP.out.mono ?_
   rintro e w1 ⟨rfl,hb⟩
   obtain⟨c1,cv⟩:=HC.out _ hb
   go_wp2_with fail
   go_ret2
   refine⟨?_,hb⟩
   rw [HFIN.out]
   first
    | (simp; done)
    | (simp; omega)
    | trace_state
 ·have hne:((h.lookE o i [2]:Int) != 0)=true:=by simp; omega
  rw [HM.placeV_no he] at HP
  have HN:=Lib.hid (show h.byteN o i=0 by unfold HM.byteN; rw [if_neg he])
  rw [HN.out]
  generalize h.lookE o i [2]=E at *
  clear he HN
  unfold ptr at HP ⊢
  go_enter Tryz.func159,Tryz.ntmps159
  go_wp2_with fail
  refine HP.out.mono ?_
  rintro e w1 ⟨rfl,hb⟩
  go_wp2_with fail
  go_ret2
  exact⟨rfl,hb⟩
end
end
section
open Go.RowKit
section
variable {w:World} {p:HP} {h:HM} (R:RAt w p h) (f:h.Fit) (hh:h.Heads) (o:Nat) (ho:o<4294967296) (i:Int) (hi63:i≤9223372036854775807)
include R f hh ho hi63
set_option maxRecDepth 100000 in
theorem rput_any (v:Nat) (hv:v<4294967296):Calls Tryz.prog 19 #[ptr p.g,.int .u32 o,.int .i64 i,.int .u32 v] w (RDeeds p (h.putH o i v) (h.putE o i v) w):=by
 have HP:=Lib.hid (rplace_any R f o ho hh i 1 [1,4] (by decide) hi63)
 have HVC:=Lib.hid (fun w' (hb:Below w.heap.size w w')=>rvalb_any (R.below hb) f v hv)
 have HR:=Lib.hid (fun w' (hb:Below w.heap.size w w')=>R.below hb)
 have hle:=h.lookE_lt o i [1,4]
 by_cases he:h.lookE o i [1,4]=0
 ·obtain⟨k,rfl,hk⟩:=look_at hh (F:=1) (fs:=[1,4]) (by decide) he
  rw [HM.placeV_at he] at HP
  simp only [Nat.reduceEqDiff,if_false] at HP hk
  have hE:h.putE o k v=if h.valB v then 0 else 3:=by unfold HM.putE; rw [if_pos he]
  have hmx:=f.room
  have hmx2:=f.hi
  unfold ptr at HP HVC ⊢
  cases hval:h.valB v
  ·have HF:=Lib.hid (show h.putE o k v=3∧h.putH o k v=h by rw [hval] at hE; unfold HM.putH; rw [hE]; exact⟨rfl,rfl⟩)
   rw [hval] at HVC
   clear he hle hE hval hh R f
   generalize o / 2+3+k=q at *
   go_enter Tryz.func19,Tryz.ntmps19
   go_wp2_with fail
   refine HP.out.mono ?_
   rintro e w1 ⟨rfl,hb⟩
   go_wp2_with fail
   refine (HVC.out _ hb).mono ?_
   rintro e w2 ⟨rfl,rfl⟩
   go_wp2_with fail
   go_ret
   exact⟨by rw [HF.out.1]; rfl,by rw [HF.out.2]; exact HR.out _ hb,.of_below hb⟩
  ·have HF:=Lib.hid (show h.putE o k v=0∧h.putH o k v=h.setF o k v by rw [hval] at hE; unfold HM.putH; rw [hE]; exact⟨rfl,rfl⟩)
   rw [hval] at HVC
   have HC:=Lib.hid (show ∀ w',Below w.heap.size w w'→w'.cell? ⟨p.g,1,none⟩=some (.slice (some ⟨p.gw,0,none⟩) h.words.length p.cw)∧w'.cell? ⟨p.gw,o / 2+3+k,none⟩=some (.int .u32 (fw h o k:Nat))∧w'.frozen? ⟨p.gw,o / 2+3+k,none⟩=false from fun w' hb=>⟨(R.below hb).c1,(R.below hb).word hk,(R.below hb).2.1.frozen _⟩)
   have HS:=Lib.hid (show ∀ w',Below w.heap.size w w'→RAt (w'.setCell ⟨p.gw,o / 2+3+k,none⟩ (.int .u32 v)) p (h.setF o k v) from fun w' hb=>(R.below hb).setWord _ _)
   rw [← HF.out.2] at HS
   clear he hle hE hval hh R f
   generalize fw h o k=v0 at *
   generalize o / 2+3+k=q at *
   generalize h.words.length=len at *
   go_enter Tryz.func19,Tryz.ntmps19
   go_wp2_with fail
   refine HP.out.mono ?_
   rintro e w1 ⟨rfl,hb⟩
   go_wp2_with fail
   refine (HVC.out _ hb).mono ?_
   rintro e w2 ⟨rfl,rfl⟩
   obtain⟨c1,cv,cf⟩:=HC.out _ hb
   go_wp2_with fail
   go_ret
   exact⟨by rw [HF.out.1]; rfl,HS.out _ hb,(Step.of_below hb).setCell (.inl (.inr (.inl rfl))) _⟩
 ·have hne:((h.lookE o i [1,4]:Int) != 0)=true:=by simp; omega
  have HF:=Lib.hid (show h.putE o i v=h.lookE o i [1,4]∧h.putH o i v=h by unfold HM.putH HM.putE; rw [if_neg he,if_neg he]; exact⟨rfl,rfl⟩)
  rw [HM.placeV_no he] at HP
  generalize h.lookE o i [1,4]=E at *
  clear he
  unfold ptr at HP ⊢
  go_enter Tryz.func19,Tryz.ntmps19
  go_wp2_with fail
  refine HP.out.mono ?_
  rintro e w1 ⟨rfl,hb⟩
  go_wp2_with fail
  go_ret
  exact⟨by rw [HF.out.1]; rfl,by rw [HF.out.2]; exact HR.out _ hb,.of_below hb⟩
end
section
variable {w:World} {p:HP} {h:HM} (R:RAt w p h) (f:h.Fit)
include R f
theorem rsetClass_any (o c:Nat) (ho:o<4294967296) (hc:c<4294967296) (hh:h.Heads):Calls Tryz.prog 56 #[ptr p.g,.int .u32 o,.int .u32 c] w (RDeeds p (h.setClassH o c) (h.setClassE o c) w):=by
 have HI:=Lib.hid (ris_any R f o ho)
 have HK:=Lib.hid (risclass_any R f c hc)
 have HR:=Lib.hid R
 unfold ptr at HI HK ⊢
 cases hi:h.isB o
 ·have HF:=Lib.hid (show h.setClassE o c=3∧h.setClassH o c=h by unfold HM.setClassH HM.setClassE; rw [hi]; exact⟨rfl,rfl⟩)
  rw [hi] at HI
  clear hi
  go_enter Tryz.func56,Tryz.ntmps56
  go_wp2_with fail
  refine HI.out.mono ?_
  rintro e w1 ⟨rfl,rfl⟩
  go_wp2_with fail
  go_ret
  exact⟨by rw [HF.out.1]; rfl,by rw [HF.out.2]; exact HR.out,Step.refl _ _⟩
 ·cases hk:h.clsB c
  ·have HF:=Lib.hid (show h.setClassE o c=3∧h.setClassH o c=h by unfold HM.setClassH HM.setClassE; rw [hi,hk]; exact⟨rfl,rfl⟩)
   rw [hi] at HI
   rw [hk] at HK
   clear hi hk
   go_enter Tryz.func56,Tryz.ntmps56
   go_wp2_with fail
   refine HI.out.mono ?_
   rintro e w1 ⟨rfl,rfl⟩
   go_wp2_with fail
   refine HK.out.mono ?_
   rintro e w1 ⟨rfl,rfl⟩
   go_wp2_with fail
   go_ret
   exact⟨by rw [HF.out.1]; rfl,by rw [HF.out.2]; exact HR.out,Step.refl _ _⟩
  ·have HF:=Lib.hid (show h.setClassE o c=0∧h.setClassH o c={ h with words:=h.words.set (o / 2+1) c } by unfold HM.setClassH HM.setClassE; rw [hi,hk]; exact⟨rfl,rfl⟩)
   have hd:=(HM.isB_hd hh hi).1
   have hmx:=f.room
   have hmx2:=f.hi
   have c1:=R.c1
   have cv:=R.word (i:=o / 2+1) (by omega)
   have cf:=R.2.1.frozen (o / 2+1)
   have HS:=Lib.hid (R.setWord (o / 2+1) c)
   rw [← HF.out.2] at HS
   rw [hi] at HI
   rw [hk] at HK
   have hq:((o:Int) / 2)=((o / 2:Nat):Int):=by omega
   have hq2:o / 2+1<h.words.length:=by omega
   clear hi hk hd R f
   generalize h.words.getD (o / 2+1) 0=v0 at *
   generalize o / 2=q at *
   generalize h.words.length=len at *
   go_enter Tryz.func56,Tryz.ntmps56
   go_wp2_with fail
   refine HI.out.mono ?_
   rintro e w1 ⟨rfl,rfl⟩
   go_wp2_with fail
   refine HK.out.mono ?_
   rintro e w1 ⟨rfl,rfl⟩
   go_wp2_with fail
   go_ret
   exact⟨by rw [HF.out.1]; rfl,HS.out,(Step.refl _ _).setCell (.inl (.inr (.inl rfl))) _⟩
end
end
section
open Go.RowKit
section
variable {w w1:World} {p:HP} {h:HM}
theorem RAt.grewWords (H:RAt w p h) {g1 c1:Nat} {ys:List Nat} (hr:Row w1 g1 37 c1 (u32s (h.words++ys))) (hg:w.grownBy w1 (some p.gw)) (hat:g1=p.gw∨w.heap.size≤g1):
 RAt (w1.setCell ⟨p.g,1,none⟩ (.slice (some ⟨g1,0,none⟩) (h.words++ys).length c1)) { p with gw:=g1,cw:=c1 } { h with words:=h.words++ys }∧
 Step p { p with gw:=g1,cw:=c1 } w (w1.setCell ⟨p.g,1,none⟩ (.slice (some ⟨g1,0,none⟩) (h.words++ys).length c1)):=by
 obtain⟨hb,hw,hs,hrt⟩:=H
 have n1:p.g≠p.gw:=fun e=>Row.ne_blk hw hb (by decide) e.symm
 have n2:p.gs≠p.gw:=hs.ne_ hw (by decide)
 have n3:p.gr≠p.gw:=hrt.ne_ hw (by decide)
 have hb1:=hb.same (hg.block p.g hb.lt (by simpa using n1))
 have hs1:=hs.same (hg.block p.gs hs.lt (by simpa using n2))
 have hr1:=hrt.same (hg.block p.gr hrt.lt (by simpa using n3))
 refine⟨⟨hb1.set_ 1 _,hr.far (fun e=>Row.ne_blk hr hb1 (by decide) e) _,hs1.far (fun e=>Row.ne_blk hs1 hb1 (by decide) e) _,hr1.far (fun e=>Row.ne_blk hr1 hb1 (by decide) e) _⟩,?_⟩
 have s1:Step p { p with gw:=g1,cw:=c1 } w w1:=⟨hg.os,hg.tape,hg.output,hg.size,fun k hk hn=>hg.block k hk (by
  intro e; injection e with e; exact hn (.inr (.inl e))),rfl,by
  rintro k (hk | hk | hk | hk)
  ·exact .inl (.inl hk)
  ·rcases hat with e | e
   ·exact .inl (.inr (.inl (hk.trans e)))
   ·exact .inr (hk ▸ e)
  ·exact .inl (.inr (.inr (.inl hk)))
  ·exact .inl (.inr (.inr (.inr hk)))⟩
 exact s1.setCell (.inl (.inl rfl)) _
theorem RAt.grewBegins (H:RAt w p h) {g1 c1:Nat} {ys:List Bool} (hr:Row w1 g1 5 c1 (begins (h.starts++ys))) (hg:w.grownBy w1 (some p.gs)) (hat:g1=p.gs∨w.heap.size≤g1):
 RAt (w1.setCell ⟨p.g,4,none⟩ (.slice (some ⟨g1,0,none⟩) (h.starts++ys).length c1)) { p with gs:=g1,cs:=c1 } { h with starts:=h.starts++ys }∧
 Step p { p with gs:=g1,cs:=c1 } w (w1.setCell ⟨p.g,4,none⟩ (.slice (some ⟨g1,0,none⟩) (h.starts++ys).length c1)):=by
 obtain⟨hb,hw,hs,hrt⟩:=H
 have n1:p.g≠p.gs:=fun e=>Row.ne_blk hs hb (by decide) e.symm
 have n2:p.gw≠p.gs:=hw.ne_ hs (by decide)
 have n3:p.gr≠p.gs:=hrt.ne_ hs (by decide)
 have hb1:=hb.same (hg.block p.g hb.lt (by simpa using n1))
 have hw1:=hw.same (hg.block p.gw hw.lt (by simpa using n2))
 have hr1:=hrt.same (hg.block p.gr hrt.lt (by simpa using n3))
 refine⟨⟨hb1.set_ 4 _,hw1.far (fun e=>Row.ne_blk hw1 hb1 (by decide) e) _,hr.far (fun e=>Row.ne_blk hr hb1 (by decide) e) _,hr1.far (fun e=>Row.ne_blk hr1 hb1 (by decide) e) _⟩,?_⟩
 have s1:Step p { p with gs:=g1,cs:=c1 } w w1:=⟨hg.os,hg.tape,hg.output,hg.size,fun k hk hn=>hg.block k hk (by
  intro e; injection e with e; exact hn (.inr (.inr (.inl e)))),rfl,by
  rintro k (hk | hk | hk | hk)
  ·exact .inl (.inl hk)
  ·exact .inl (.inr (.inl hk))
  ·rcases hat with e | e
   ·exact .inl (.inr (.inr (.inl (hk.trans e))))
   ·exact .inr (hk ▸ e)
  ·exact .inl (.inr (.inr (.inr hk)))⟩
 exact s1.setCell (.inl (.inl rfl)) _
end
def RMade (p:HP) (h':HM) (v:Value) (w:World) (e:Ending) (w':World):Prop:=∃ p',e = .returned v∧RAt w' p' h'∧Step p p' w w'
theorem wpList_append_zeros {P:Program} {w:World} {ops:Array Oper} {rest:List Oper} {o:Oper} {a:Act} {Q:Exit→Act→World→Prop} (hgd:o.guard=none) (s x:Operand) (t tn:TypeId)
 (ho:o.op = .call { callee:=.builtin .append,args:=#[s,x],argTypes:=#[t,tn] })
 {g c:Nat} {e:TypeId} {xs:List Value} (hr:Row w g e c xs) (i:TypeInfo) (z:Value) (bytes:Nat)
 (ht:P.underlying t=some (.slice e)) (htn:P.underlying tn=some (.int .i64)) (hi:P.info? e=some i) (hz:i.zero=some z) (hsize:i.size=1) (hby:i.bytes=bytes)
 (hz1:z.cells=#[z]) (hone:z.oneCell'=true) (n k:Nat) (hn:xs.length=n) (hk:0<k) (h63:n+k≤maxLen) (hbytes:(n+k)*bytes≤140737488355328)
 (hs:a.eval s = .slice (some ⟨g,0,none⟩) n c) (hx:a.eval x = .int .i64 k)
 (h:∀ g' c' w',Row w' g' e c' (xs++List.replicate k z)→w.grownBy w' (some g)→(g'=g∨g'=w.heap.size)→wpList P ops Q rest (a.put o.dst (.slice (some ⟨g',0,none⟩) (n+k) c')) w'):wpList P ops Q (o :: rest) a w:=by
 refine wpList_plain hgd fun K hK=>?_
 subst hn
 obtain⟨g',c',w',hrun,h1,h2,h3⟩:=run_append_zeros hr t tn o.type i z bytes ht htn hi hz hsize hby hz1 hone k hk h63 hbytes
 exact Lib.wp_append_run w s x t tn ho _ _ hs hx _ w' hrun (hK _ _ (h g' c' w' h1 h2 h3))
def RMid (p p':HP) (h':HM) (w:World) (gf n:Nat) (ys:List Nat) (wr:World):Prop:=
 RAt wr p' h'∧Step p p' w wr∧Row wr gf 37 n (u32s ys)∧¬ p'.has gf
theorem RMid.next {p p' p'':HP} {h' h'':HM} {w wr wx:World} {gf n:Nat} {ys:List Nat} (m:RMid p p' h' w gf n ys wr) (R:RAt wx p'' h'') (s:Step p' p'' wr wx):RMid p p'' h'' w gf n ys wx:=
 ⟨R,m.2.1.trans s,s.row m.2.2.1 m.2.2.2⟩
theorem RMid.below {p p':HP} {h':HM} {w wr wx:World} {gf n:Nat} {ys:List Nat} (m:RMid p p' h' w gf n ys wr) (hb:Below wr.heap.size wr wx):RMid p p' h' w gf n ys wx:=
 m.next (m.1.below hb) (.of_below hb)
set_option maxRecDepth 100000 in
set_option maxHeartbeats 4000000 in
theorem rlay_any {w:World} {p:HP} {h:HM} (R:RAt w p h) (f:h.Fit) (c F s gf n:Nat) (ys:List Nat) (hc:c<4294967296) (hF:F<8) (hs:s<4) (hn:n≤65535) (hyl:ys.length=n) (hr:Row w gf 37 n (u32s ys)) (hg:¬ p.has gf):
 Calls Tryz.prog 95 #[ptr p.g,.int .u32 c,.int .i64 F,.int .i64 s,.slice (some ⟨gf,0,none⟩) n n] w
  (RMade p (if h.size<h.words.length+3+n∨h.last=4294967295 then h else h.pushH ⟨n,F,s,c,0⟩ ys)
    (if h.size<h.words.length+3+n∨h.last=4294967295 then .tuple #[.int .u32 0,.int .i64 4] else .tuple #[.int .u32 (2*h.words.length:Nat),.int .i64 0]) w):=by
 have hroom:=f.room
 have hhi:=f.hi
 have hone:=f.one
 have hl32:=f.l32
 have hmarks:=f.marks
 have c0:=R.c0
 have c1:=R.c1
 have c3:=R.c3
 have f3:=R.1.frozen 3
 unfold ptr
 by_cases hfull:h.size<h.words.length+3+n
 ·have HF:=Lib.hid (show (h.size<h.words.length+3+n∨h.last=4294967295) from .inl hfull)
  rw [if_pos HF.out,if_pos HF.out]
  have HR:=Lib.hid R
  have hgt:decide ((h.size:Int)<(h.words.length:Int)+3+(n:Int))=true:=by simp; omega
  clear hfull R f hr
  go_enter Tryz.func95,Tryz.ntmps95
  go_wp2_with fail
  go_quiet (fail)
  go_wp2_with fail
  go_ret2
  exact⟨p,rfl,HR.out.drewN _,(Step.refl _ _).drewN _⟩
 have hgt:decide ((h.size:Int)<(h.words.length:Int)+3+(n:Int))=false:=by simp; omega
 by_cases hlast:h.last=4294967295
 ·have HF:=Lib.hid (show (h.size<h.words.length+3+n∨h.last=4294967295) from .inr hlast)
  rw [if_pos HF.out,if_pos HF.out]
  have HR:=Lib.hid R
  have hq:((h.last:Int) == 4294967295)=true:=by simp; omega
  clear hfull hlast R f hr
  go_enter Tryz.func95,Tryz.ntmps95
  go_wp2_with fail
  go_quiet (fail)
  go_wp2_with fail
  go_ret2
  exact⟨p,rfl,HR.out.drewN _,(Step.refl _ _).drewN _⟩
 have HF:=Lib.hid (show ¬ (h.size<h.words.length+3+n∨h.last=4294967295) by omega)
 rw [if_neg HF.out,if_neg HF.out]
 have hq:((h.last:Int) == 4294967295)=false:=by simp; omega
 have HM0:=Lib.hid (show RMid p p h w gf n ys w from⟨R,Step.refl _ _,hr,hg⟩)
 obtain⟨l1,hl1⟩ :∃ l1,h.last+1=l1:=⟨_,rfl⟩
 have hcast:(h.last:Int)+1=(l1:Int):=by omega
 have hl1b:l1<4294967296:=by omega
 have HL1:=Lib.hid hl1
 have HFT:=Lib.hid f
 clear hlast R hr HF hl1 f
 go_enter Tryz.func95,Tryz.ntmps95
 go_wp2_with fail
 go_quiet (fail)
 go_wp2_with fail
 have HM2:=Lib.hid (show RMid p p { h with last:=l1 } w gf n ys ((w.drewN nq).setCell ⟨p.g,3,none⟩ (.int .u32 (l1:Nat))) from
  (show RMid p p h w gf n ys (w.drewN nq) from HM0.out.below (below_drewN (Below.refl _ _) _)).next ((HM0.out.1.drewN nq).setLast l1) ((Step.refl _ _).setCell (.inl (.inl rfl)) _))
 clear HM0 c0 c1 c3 f3
 generalize (w.drewN nq).setCell _ _=W2 at *
 have HPK:=Lib.hid (fun w=>rpack_any ⟨n,F,s,c,l1⟩ ⟨by show n<16777216; omega,hF,hs,hc,hl1b⟩ w)
 unfold Hd.val Hd.packed at HPK
 generalize hw0:Hd.w0 ⟨n,F,s,c,l1⟩=w0 at *
 have HW0:=Lib.hid hw0
 clear hw0
 refine (HPK.out _).mono ?_
 rintro e w3 ⟨rfl,hb3⟩
 clear HPK
 go_upto_region 5 with fail
 have HM4:=Lib.hid ((HM2.out.below hb3).below (below_alloc1 (o:=.cells #[.int .u32 w0,.int .u32 c,.int .u32 l1] 170) (Below.refl _ w3)))
 have HT4:=Lib.hid (Blk.new w3 170 #[.int .u32 w0,.int .u32 c,.int .u32 l1])
 clear HM2 hb3
 generalize w3.alloc (.cells #[.int .u32 w0,.int .u32 c,.int .u32 l1] 170)=W4 at *
 generalize w3.heap.size=gT at *
 have k1:=HM4.out.1.c1
 have k4:=HM4.out.1.c4
 simp only [hmarks] at k4
 have hown:=HM4.out.1.2.2.1.owns
 rw [begins_len] at hown
 simp only [hmarks] at hown
 have HO:=Lib.hid hown
 have z4:=HM4.out.1.1.frozen 4
 have n1:p.g≠p.gs:=fun e=>Row.ne_blk HM4.out.1.2.2.1 HM4.out.1.1 (by decide) e.symm
 have hgg:p.g<W4.heap.size:=HM4.out.1.lt (.inl rfl)
 clear hown
 obtain⟨i0,hi0,hz0,hz1,hz2⟩:=info_parts info_u8
 go_upto_region 7 with (at_builtin; refine wpList_append_any _ rfl (.tmp 62) (.tmp 63) _ rfl 0 5 i0 _ 1 1 Tryz.underlying56 hi0 hz0 hz1 hz2 rfl (by omega) (.slice (some ⟨p.gs,0,none⟩) h.words.length p.cs) h.words.length _ rfl (HO.out.alloc _) (W4.heap.size+1) (some ⟨W4.heap.size,0,none⟩) 1 1 (u8c [1]) rfl ⟨rfl,fun _=>⟨_,rfl,by simp,cell_one_new _ _ _⟩⟩ (one_u8c _) (by simp only [maxLen]; omega) (by omega) (by omega) ?_; intro v5 w5 hown5 hg5 hat5; obtain⟨g5,c5,rfl,hrow5,hlen5,_⟩:=Row.of_any hown5 (by omega); have k5:=(hg5.cell_far ⟨p.g,4,none⟩ (by simp; omega) (by simp [Value.ownBlock]; exact n1)).trans ((World.cell?_alloc_lt _ _ _ hgg).trans k4); have z5:=(hg5.frozen_far ⟨p.g,4,none⟩ (by simp; omega) (by simp [Value.ownBlock]; exact n1)).trans (((below_alloc1 (Below.refl _ W4)).frozen (p:=⟨p.g,4,none⟩) hgg).trans z4); clear hown5)
 have hu5:begins h.starts++u8c [1]=begins (h.starts++[true]):=by simp [begins,u8c]
 have hl5:(h.starts++[true]).length=h.words.length+1:=by simp [hmarks]
 rw [hu5] at hrow5
 have HM4':=HM4.out.below (below_alloc1 (o:=.cells #[.int .u8 1] 5) (Below.refl _ W4))
 obtain⟨H6,s6⟩:=RAt.grewBegins (ys:=[true]) HM4'.1 hrow5 hg5 (by
  rcases hat5 with e | e
  ·left; simpa [Value.ownBlock] using e
  ·right; simp only [Value.ownBlock,Option.some.injEq] at e; omega)
 simp only [hl5] at H6 s6
 have HM6:=Lib.hid (HM4'.next H6 s6)
 have BT6:=Lib.hid (show Blk (w5.setCell ⟨p.g,4,none⟩ (.slice (some ⟨g5,0,none⟩) (h.words.length+1) c5)) gT 170 #[.int .u32 w0,.int .u32 c,.int .u32 l1] from
  ((HT4.out.alloc _).same (hg5.block gT (HT4.out.alloc _).lt (by simp only [Value.ownBlock]; intro e; injection e with e; exact Row.ne_blk HM4.out.1.2.2.1 HT4.out (by decide) e.symm))).far (p:=⟨p.g,4,none⟩) (fun e=>Blk.ne_ HT4.out HM4.out.1.1 (by decide) e) _)
 clear HM4' hu5 hl5 hrow5 hg5 hat5 hlen5 k5 z5 HM4 HT4 k1 k4 HO z4 n1 hgg H6 s6
 generalize w5.setCell _ _=W6 at *
 generalize hp6:({ p with gs:=g5,cs:=c5 }:HP)=p6 at *
 have HG6:=Lib.hid (show p6.g=p.g by rw [← hp6])
 clear hp6
 have q1:=HM6.out.1.c1
 have q4:=HM6.out.1.c4
 have zz4:=HM6.out.1.1.frozen 4
 have hsl:(h.starts++[true]).length=h.words.length+1:=by simp [hmarks]
 simp only [hsl] at q4
 rw [HG6.out] at q1 q4 zz4
 have n1:p.g≠p6.gs:=fun e=>Row.ne_blk HM6.out.1.2.2.1 HM6.out.1.1 (by decide) (by rw [HG6.out]; exact e.symm)
 have hgg:p.g<W6.heap.size:=by have:=HM6.out.1.lt (.inl rfl); rw [HG6.out] at this; exact this
 have HSL:=Lib.hid (show (begins (h.starts++[true])).length=h.words.length+1 by rw [begins_len]; exact hsl)
 have a1:IntKind.i64.wrap (2+(n:Int))=2+(n:Int):=IntWalk.i64_in _ (by omega)
 clear hsl
 go_upto_region 8 with (at_builtin; refine wpList_append_zeros rfl (.tmp 71) (.tmp 74) _ _ rfl (show Row W6 p6.gs 5 p6.cs (begins (h.starts++[true])) from HM6.out.1.2.2.1) i0 _ 1 Tryz.underlying56 Tryz.underlying3 hi0 hz0 hz1 hz2 rfl rfl (h.words.length+1) (2+n) HSL.out (by omega) (by simp only [maxLen]; omega) (by omega) rfl (by first | rfl | (simp; omega)) ?_; intro g7 c7 w7 hrow7 hg7 hat7; have k7:=(hg7.cell_far ⟨p.g,4,none⟩ hgg (by simpa using n1)).trans q4; have z7:=(hg7.frozen_far ⟨p.g,4,none⟩ hgg (by simpa using n1)).trans zz4)
 have hu7:begins (h.starts++[true])++List.replicate (2+n) (.int .u8 0)=begins (h.starts++[true]++List.replicate (2+n) false):=by simp [begins]
 have hl7:(h.starts++[true]++List.replicate (2+n) false).length=h.words.length+1+(2+n):=by simp [hmarks]; omega
 rw [hu7] at hrow7
 obtain⟨H8,s8⟩:=RAt.grewBegins (ys:=List.replicate (2+n) false) HM6.out.1 hrow7 hg7 (by
  rcases hat7 with e | e
  ·exact .inl e
  ·right; rw [e]; exact Nat.le_refl _)
 simp only [hl7] at H8 s8
 rw [HG6.out] at H8 s8
 have HM8:=Lib.hid (HM6.out.next H8 s8)
 have BT8:=Lib.hid (show Blk (w7.setCell ⟨p.g,4,none⟩ (.slice (some ⟨g7,0,none⟩) (h.words.length+1+(2+n)) c7)) gT 170 #[.int .u32 w0,.int .u32 c,.int .u32 l1] from
  (BT6.out.same (hg7.block gT BT6.out.lt (by intro e; injection e with e; exact Row.ne_blk HM6.out.1.2.2.1 BT6.out (by decide) e.symm))).far (p:=⟨p.g,4,none⟩) (fun e=>Blk.ne_ BT6.out HM6.out.1.1 (by decide) (by rw [HG6.out]; exact e)) _)
 clear hu7 hl7 hrow7 hg7 hat7 k7 z7 HM6 BT6 q1 q4 zz4 n1 hgg H8 s8 HSL a1 hi0 hz0 hz1 hz2
 generalize w7.setCell _ _=W8 at *
 generalize hp8:(⟨p.g,p6.gw,p6.cw,g7,c7,p6.gr,p6.cr⟩ :HP)=p8 at *
 have HG8:=Lib.hid (show p8.g=p.g by rw [← hp8])
 clear hp8
 have q1:=HM8.out.1.c1
 have zz1:=HM8.out.1.1.frozen 1
 rw [HG8.out] at q1 zz1
 simp only at q1
 have hown:=HM8.out.1.2.1.owns
 rw [u32s_len] at hown
 simp only at hown
 have HO:=Lib.hid hown
 have HN:=Lib.hid (show Reads (W8.alloc (.cells #[.int .u32 w0,.int .u32 c,.int .u32 l1] 37)) (W8.heap.size+1) 1 (some ⟨W8.heap.size,0,none⟩) 3 (u32s [w0,c,l1]) from⟨rfl,fun _=>⟨_,rfl,by simp,fun j u hj=>by
  rw [WideShapes.add_plain,Nat.zero_add,(Blk.new W8 _ _).cell]
  simpa [u32s] using hj⟩⟩)
 have n1:p.g≠p8.gw:=fun e=>Row.ne_blk HM8.out.1.2.1 HM8.out.1.1 (by decide) (by rw [HG8.out]; exact e.symm)
 have hgg:p.g<W8.heap.size:=by have:=HM8.out.1.lt (.inl rfl); rw [HG8.out] at this; exact this
 have hnb:W8.heap.size≠p.g:=by omega
 obtain⟨t0,t1,t2⟩:=BT8.out.cells3
 have htl:=BT8.out.lt
 obtain⟨i1,hi0,hz0,hz1,hz2⟩:=info_parts info_u32
 clear hown
 go_cut [78] (fun v wx=>∃ p9,RMid p p9 { h with words:=h.words++[w0,c,l1],starts:=h.starts++[true]++List.replicate (2+n) false,last:=l1 } w gf n ys wx)
 case first=>
  go_region_law
   ((refine step_append_any _ (by rfl) _ _ _ (by rfl) 0 37 i1 _ 1 4 Tryz.underlying54 hi0 hz0 hz1 hz2 rfl (by omega) (.slice (some ⟨p8.gw,0,none⟩) h.words.length p8.cw) h.words.length (u32s h.words) (by rfl) (HO.out.alloc _).drew (W8.heap.size+1) (some ⟨W8.heap.size,0,none⟩) 3 3 (u32s [w0,c,l1]) (by rfl) HN.out.drew (one_u32s _) (by simp only [maxLen]; omega) (by omega) (by omega) ?_; intro v9 w9 hown9 hg9 hat9; obtain⟨g9,c9,rfl,hrow9,hlen9,_⟩:=Row.of_any hown9 (by omega); have k9:=(hg9.cell_far ⟨p.g,1,none⟩ (by simp [World.drew]; omega) (by simp [Value.ownBlock]; exact n1)).trans ((World.cell?_alloc_lt _ _ _ hgg).trans q1); have z9:=(hg9.frozen_far ⟨p.g,1,none⟩ (by simp [World.drew]; omega) (by simp [Value.ownBlock]; exact n1)).trans (((below_alloc1 (Below.refl _ W8)).frozen (p:=⟨p.g,1,none⟩) hgg).trans zz1); clear hown9))
  all_goals
   have hu9:u32s h.words++u32s [w0,c,l1]=u32s (h.words++[w0,c,l1]):=by simp [u32s]
   have hl9:(h.words++[w0,c,l1]).length=h.words.length+3:=by simp
   rw [hu9] at hrow9
   have HM8':=HM8.out.below (below_drew (below_alloc1 (o:=.cells #[.int .u32 w0,.int .u32 c,.int .u32 l1] 37) (Below.refl _ W8)))
   obtain⟨H10,s10⟩:=RAt.grewWords (ys:=[w0,c,l1]) HM8'.1 hrow9 hg9 (by
    rcases hat9 with e | e
    ·left; simpa [Value.ownBlock] using e
    ·right; simp only [Value.ownBlock,Option.some.injEq] at e; omega)
   simp only [hl9] at H10 s10
   rw [HG8.out] at H10 s10
   go_wp2_with fail
   go_meet
   exact⟨_,HM8'.next H10 s10⟩
 case rest=>
  obtain⟨p9,HM9⟩:=hcut
  clear HM8 HN HO BT8 t0 t1 t2 htl q1 zz1 n1 hgg hnb
  have HG9:=Lib.hid (show p9.g=p.g from HM9.2.1.g)
  have hl9:(h.words++[w0,c,l1]).length=h.words.length+3:=by simp
  have q1:=HM9.1.c1
  have zz1:=HM9.1.1.frozen 1
  rw [HG9.out] at q1 zz1
  simp only [hl9] at q1
  have hown:=HM9.1.2.1.owns
  rw [u32s_len] at hown
  simp only [hl9] at hown
  have HO:=Lib.hid hown
  have HN:=Lib.hid (show Reads wc wc.heap.size 1 (some ⟨gf,0,none⟩) n (u32s ys) by have:=HM9.2.2.1.reads HM9.2.2.1.lt; rw [u32s_len,hyl] at this; exact this)
  have n1:p.g≠p9.gw:=fun e=>Row.ne_blk HM9.1.2.1 HM9.1.1 (by decide) (by rw [HG9.out]; exact e.symm)
  have hgg:p.g<wc.heap.size:=by have:=HM9.1.lt (.inl rfl); rw [HG9.out] at this; exact this
  have HMZ:=Lib.hid HM9
  clear hown hl9 HM9
  obtain⟨i2,hj0,hj1,hj2,hj3⟩:=info_parts info_u32
  go_wp2_with (at_builtin; refine wpList_append_any _ rfl (.tmp 97) (.tmp 98) _ rfl 0 37 i2 _ 1 4 Tryz.underlying54 hj0 hj1 hj2 hj3 rfl (by omega) (.slice (some ⟨p9.gw,0,none⟩) (h.words.length+3) p9.cw) (h.words.length+3) _ rfl HO.out wc.heap.size (some ⟨gf,0,none⟩) n n (u32s ys) rfl HN.out (one_u32s _) (by simp only [maxLen]; omega) (by omega) (by omega) ?_; intro v11 w11 hown11 hg11 hat11; obtain⟨g11,c11,rfl,hrow11,hlen11,_⟩:=Row.of_any hown11 (by omega); have k11:=(hg11.cell_far ⟨p.g,1,none⟩ hgg (by simp [Value.ownBlock]; exact n1)).trans q1; have z11:=(hg11.frozen_far ⟨p.g,1,none⟩ hgg (by simp [Value.ownBlock]; exact n1)).trans zz1; clear hown11)
  have hu:u32s (h.words++[w0,c,l1])++u32s ys=u32s (h.words++[w0,c,l1]++ys):=by simp [u32s]
  have hl:(h.words++[w0,c,l1]++ys).length=h.words.length+3+n:=by simp [hyl]; omega
  rw [hu] at hrow11
  obtain⟨H12,s12⟩:=RAt.grewWords (ys:=ys) HMZ.out.1 hrow11 hg11 (by
   rcases hat11 with e | e
   ·left; simpa [Value.ownBlock] using e
   ·right; simp only [Value.ownBlock,Option.some.injEq] at e; omega)
  simp only [hl] at H12 s12
  rw [HG9.out] at H12 s12
  have HE:=Lib.hid (show h.pushH ⟨n,F,s,c,0⟩ ys={ h with words:=h.words++[w0,c,l1]++ys,starts:=h.starts++[true]++List.replicate (2+n) false,last:=l1 } by
   unfold HM.pushH
   rw [show Hd.w0 ⟨n,F,s,c,0⟩=w0 from HW0.out,HL1.out]
   simp)
  go_ret2
  exact⟨_,rfl,by rw [HE.out]; exact H12,HMZ.out.2.1.trans s12⟩
end
section
open Go.RowKit
attribute [local go_sem] Oper.semAt_some
theorem rep_at (k n a b:Nat) (hk:k<n):(List.replicate k a++List.replicate (n-k) b)[k]? = some b:=by
 rw [List.getElem?_append_right (by simp),List.length_replicate,Nat.sub_self,List.getElem?_replicate,if_pos (by omega)]
theorem set_replicate_app (k n a b:Nat) (hk:k<n):(List.replicate k a++List.replicate (n-k) b).set k a=List.replicate (k+1) a++List.replicate (n-(k+1)) b:=by
 rw [List.set_append_right _ _ (by simp),List.length_replicate,Nat.sub_self,show n-k=(n-(k+1))+1 by omega,List.replicate_succ,List.set_cons_zero,List.replicate_succ' (n:=k)]
 simp
theorem push_eq {h:HM} (c t k:Nat) (hcl:h.clsB c=true):
 h.allocH (mkHd c t k)=(if h.size<h.words.length+3+k∨h.last=4294967295 then h else h.pushH ⟨k,t,0,c,0⟩ (List.replicate k (if t=1∨t=4 then h.roots.getD 0 0 else 0)))∧
 h.allocV (mkHd c t k)=(if h.size<h.words.length+3+k∨h.last=4294967295 then .tuple #[.int .u32 0,.int .i64 4] else .tuple #[.int .u32 (2*h.words.length:Nat),.int .i64 0]):=by
 unfold HM.allocH HM.allocV HM.allocE
 have e:mkHd c (t:Int) (k:Int)=⟨k,t,0,c,0⟩:=rfl
 rw [e]
 dsimp only
 rw [hcl]
 have hf:h.fill ⟨k,t,0,c,0⟩=(if t=1∨t=4 then h.roots.getD 0 0 else 0):=by
  unfold HM.fill Hd.ptrB
  by_cases ht:t=1∨t=4
  ·simp [ht]
  ·simp [ht]
 rw [hf]
 by_cases hfull:h.size<h.words.length+3+k∨h.last=4294967295
 ·simp [hfull]
 ·simp [hfull]
theorem make_eq {h:HM} (c:Nat) (bs:List Nat) (hl:bs.length≤262140) (hcl:h.clsB c=true):
 h.makeH c bs=(if h.size<h.words.length+3+(bs.length+3) / 4∨h.last=4294967295 then h else h.pushH (makeX c bs) (packM bs))∧
 h.makeV c bs=(if h.size<h.words.length+3+(bs.length+3) / 4∨h.last=4294967295 then .tuple #[.int .u32 0,.int .i64 4] else .tuple #[.int .u32 (2*h.words.length:Nat),.int .i64 0]):=by
 have e0:h.makeE c bs=h.allocE (makeX c bs):=by unfold HM.makeE; rw [if_neg (by omega)]
 unfold HM.makeH HM.makeV
 rw [e0]
 unfold HM.allocE
 rw [show (makeX c bs).cls=c from rfl,hcl,show (makeX c bs).size=(bs.length+3) / 4 from rfl]
 by_cases hfull:h.size<h.words.length+3+(bs.length+3) / 4∨h.last=4294967295
 ·simp [hfull]
 ·simp [hfull]
section
variable {w:World} {p:HP} {h:HM} (R:RAt w p h) (f:h.Fit)
include R f
set_option maxRecDepth 100000 in
set_option maxHeartbeats 4000000 in
theorem rAlloc_any (c:Nat) (hc:c<4294967296) (t n:Int):
 Calls Tryz.prog 51 #[ptr p.g,.int .u32 c,.int .i64 t,.int .i64 n] w (RMade p (h.AllocH c t n) (h.AllocV c t n) w):=by
 have bad:allocOk t n=false→(h.AllocH c t n=h∧h.AllocV c t n = .tuple #[.int .u32 0,.int .i64 1]):=fun e=>by simp [HM.AllocH,HM.AllocV,e]
 have HK:=Lib.hid (risclass_any R f c hc)
 have HR:=Lib.hid R
 by_cases h1:t<1
 ·have HF:=Lib.hid (bad (by simp [allocOk]; omega))
  clear bad
  go_enter Tryz.func51,Tryz.ntmps51
  go_wp2_with fail
  go_ret2
  exact⟨p,by rw [HF.out.2]; rfl,by rw [HF.out.1]; exact HR.out,Step.refl _ _⟩
 by_cases h2:4<t
 ·have HF:=Lib.hid (bad (by simp [allocOk]; omega))
  clear bad
  go_enter Tryz.func51,Tryz.ntmps51
  go_wp2_with fail
  go_ret2
  exact⟨p,by rw [HF.out.2]; rfl,by rw [HF.out.1]; exact HR.out,Step.refl _ _⟩
 by_cases h3:n<0
 ·have HF:=Lib.hid (bad (by simp [allocOk]; omega))
  clear bad
  go_enter Tryz.func51,Tryz.ntmps51
  go_wp2_with fail
  go_ret2
  exact⟨p,by rw [HF.out.2]; rfl,by rw [HF.out.1]; exact HR.out,Step.refl _ _⟩
 by_cases h4:65535<n
 ·have HF:=Lib.hid (bad (by simp [allocOk]; omega))
  clear bad
  go_enter Tryz.func51,Tryz.ntmps51
  go_wp2_with fail
  go_ret2
  exact⟨p,by rw [HF.out.2]; rfl,by rw [HF.out.1]; exact HR.out,Step.refl _ _⟩
 obtain⟨k,rfl⟩:=Int.eq_ofNat_of_zero_le (by omega:0≤n)
 have hn:k≤65535:=by omega
 unfold ptr at HK ⊢
 cases hcl:h.clsB c
 ·have HF:=Lib.hid (show h.AllocH c t (k:Int)=h∧h.AllocV c t (k:Int) = .tuple #[.int .u32 0,.int .i64 3] by
   unfold HM.AllocH HM.AllocV
   have:allocOk t (k:Int)=true:=by simp [allocOk]; omega
   rw [if_pos this,if_pos this]
   unfold HM.allocH HM.allocV HM.allocE mkHd
   simp [hcl])
  rw [hcl] at HK
  clear hcl bad R
  go_enter Tryz.func51,Tryz.ntmps51
  go_wp2_with fail
  refine HK.out.mono ?_
  rintro e w1 ⟨rfl,rfl⟩
  go_wp2_with fail
  go_ret2
  exact⟨p,by rw [HF.out.2]; rfl,by rw [HF.out.1]; exact HR.out,Step.refl _ _⟩
 ·rw [hcl] at HK
  have hmk:=make_u32 k (by omega)
  have hrl:=f.roots
  have HFIT:=Lib.hid f
  have HCL:=Lib.hid hcl
  have hnp:¬ p.has w.heap.size:=fun hh=>by have:=R.lt hh; omega
  have HNP:=Lib.hid hnp
  clear bad hcl hnp
  rcases (by omega:t=1∨t=4∨t=2∨t=3) with rfl | rfl | rfl | rfl
  ·have HF:=Lib.hid (show h.AllocH c 1 (k:Int)=(if h.size<h.words.length+3+k∨h.last=4294967295 then h else h.pushH ⟨k,1,0,c,0⟩ (List.replicate k (h.roots.getD 0 0)))∧
    h.AllocV c 1 (k:Int)=(if h.size<h.words.length+3+k∨h.last=4294967295 then .tuple #[.int .u32 0,.int .i64 4] else .tuple #[.int .u32 (2*h.words.length:Nat),.int .i64 0]) by
    have hok:allocOk 1 (k:Int)=true:=by simp [allocOk]; omega
    unfold HM.AllocH HM.AllocV
    rw [if_pos hok,if_pos hok]
    exact push_eq c 1 k HCL.out)
   have HLY:=Lib.hid (fun wr hb hr=>rlay_any (w:=wr) (R.below hb) f c 1 0 w.heap.size k (List.replicate k (h.roots.getD 0 0)) hc (by omega) (by omega) hn (by simp) hr HNP.out)
   have HC2:=Lib.hid (fun wr (hb:Below w.heap.size w wr)=>(R.below hb).c2)
   have HC0:=Lib.hid (fun wr (hb:Below w.heap.size w wr)=>(R.below hb).root (i:=0) (by omega))
   generalize h.roots.getD 0 0=r0 at *
   clear R
   go_enter Tryz.func51,Tryz.ntmps51
   go_wp2_with fail
   refine HK.out.mono ?_
   rintro e w1 ⟨rfl,rfl⟩
   go_wp2_with fail
   have HS:=Lib.hid (zcells_row w 37 k 0 (by simp only [maxLen]; omega))
   have HB0:=Lib.hid (show Below w.heap.size w (w.alloc (.cells (zcells (.int .u32 0) k) 37)) from (Below.refl _ _).alloc (Nat.le_refl _) _)
   clear hmk
   go_loopw [11] (fun i wr=>∃ j:Nat,j≤k∧i = .int .i64 j∧Row wr w.heap.size 37 k (u32s (List.replicate j r0++List.replicate (k-j) 0))∧Below w.heap.size w wr) (fun i _=>k-(intOf i).toNat)
   case atStart=>exact⟨0,by omega,rfl,by simpa using HS.out,HB0.out⟩
   case round=>
    obtain⟨j,hj,rfl,hrow,hbel⟩:=hrel
    have HBEL:=Lib.hid hbel
    rcases Nat.lt_or_ge j k with hlt | hge
    ·have hset:=hrow.set j (.int .u32 (r0:Int))
     rw [show (u32s (List.replicate j r0++List.replicate (k-j) 0)).set j (.int .u32 (r0:Int))=u32s (List.replicate (j+1) r0++List.replicate (k-(j+1)) 0) by rw [← set_replicate_app j k r0 0 hlt]; simp [u32s,List.map_set]] at hset
     have hcw:=hrow.cell (i:=j) (u:=.int .u32 0) (by simp only [u32s,List.getElem?_map,rep_at j k r0 0 hlt]; rfl)
     have hcf:=hrow.frozen j
     have HSET:=Lib.hid hset
     have k2:=HC2.out wr hbel
     have k3:=HC0.out wr hbel
     rw [hrl] at k2
     clear hset hrow hbel HS HB0
     have hjk:(j:Int)<(k:Int):=by omega
     go_wp2_with fail
     go_roundw
     case rel=>exact⟨j+1,by omega,by go_num,HSET.out,HBEL.out.setCell (p:=⟨w.heap.size,j,none⟩) (Nat.le_refl _) _⟩
     case measure=>simp [intOf]; omega
    ·obtain rfl:j=k:=by omega
     have hrow':Row wr w.heap.size 37 j (u32s (List.replicate j r0)):=by simpa using hrow
     have HLC:=Lib.hid (HLY.out wr hbel hrow')
     rw [← HF.out.1,← HF.out.2,HM.AllocV_eq] at HLC
     clear hrow hrow' hbel HLY HS HB0
     go_wp2_with fail
     refine HLC.out.mono ?_
     rintro e w2 ⟨p2,rfl,R2,S2⟩
     have HR2:=Lib.hid R2
     have HS2:=Lib.hid S2
     clear R2 S2
     go_wp2_with fail
     go_ret2
     exact⟨p2,by rw [HM.AllocV_eq]; rfl,HR2.out,(Step.of_below HBEL.out).trans HS2.out⟩
  ·have HF:=Lib.hid (show h.AllocH c 4 (k:Int)=(if h.size<h.words.length+3+k∨h.last=4294967295 then h else h.pushH ⟨k,4,0,c,0⟩ (List.replicate k (h.roots.getD 0 0)))∧
    h.AllocV c 4 (k:Int)=(if h.size<h.words.length+3+k∨h.last=4294967295 then .tuple #[.int .u32 0,.int .i64 4] else .tuple #[.int .u32 (2*h.words.length:Nat),.int .i64 0]) by
    have hok:allocOk 4 (k:Int)=true:=by simp [allocOk]; omega
    unfold HM.AllocH HM.AllocV
    rw [if_pos hok,if_pos hok]
    exact push_eq c 4 k HCL.out)
   have HLY:=Lib.hid (fun wr hb hr=>rlay_any (w:=wr) (R.below hb) f c 4 0 w.heap.size k (List.replicate k (h.roots.getD 0 0)) hc (by omega) (by omega) hn (by simp) hr HNP.out)
   have HC2:=Lib.hid (fun wr (hb:Below w.heap.size w wr)=>(R.below hb).c2)
   have HC0:=Lib.hid (fun wr (hb:Below w.heap.size w wr)=>(R.below hb).root (i:=0) (by omega))
   generalize h.roots.getD 0 0=r0 at *
   clear R
   go_enter Tryz.func51,Tryz.ntmps51
   go_wp2_with fail
   refine HK.out.mono ?_
   rintro e w1 ⟨rfl,rfl⟩
   go_wp2_with fail
   have HS:=Lib.hid (zcells_row w 37 k 0 (by simp only [maxLen]; omega))
   have HB0:=Lib.hid (show Below w.heap.size w (w.alloc (.cells (zcells (.int .u32 0) k) 37)) from (Below.refl _ _).alloc (Nat.le_refl _) _)
   clear hmk
   go_loopw [11] (fun i wr=>∃ j:Nat,j≤k∧i = .int .i64 j∧Row wr w.heap.size 37 k (u32s (List.replicate j r0++List.replicate (k-j) 0))∧Below w.heap.size w wr) (fun i _=>k-(intOf i).toNat)
   case atStart=>exact⟨0,by omega,rfl,by simpa using HS.out,HB0.out⟩
   case round=>
    obtain⟨j,hj,rfl,hrow,hbel⟩:=hrel
    have HBEL:=Lib.hid hbel
    rcases Nat.lt_or_ge j k with hlt | hge
    ·have hset:=hrow.set j (.int .u32 (r0:Int))
     rw [show (u32s (List.replicate j r0++List.replicate (k-j) 0)).set j (.int .u32 (r0:Int))=u32s (List.replicate (j+1) r0++List.replicate (k-(j+1)) 0) by rw [← set_replicate_app j k r0 0 hlt]; simp [u32s,List.map_set]] at hset
     have hcw:=hrow.cell (i:=j) (u:=.int .u32 0) (by simp only [u32s,List.getElem?_map,rep_at j k r0 0 hlt]; rfl)
     have hcf:=hrow.frozen j
     have HSET:=Lib.hid hset
     have k2:=HC2.out wr hbel
     have k3:=HC0.out wr hbel
     rw [hrl] at k2
     clear hset hrow hbel HS HB0
     have hjk:(j:Int)<(k:Int):=by omega
     go_wp2_with fail
     go_roundw
     case rel=>exact⟨j+1,by omega,by go_num,HSET.out,HBEL.out.setCell (p:=⟨w.heap.size,j,none⟩) (Nat.le_refl _) _⟩
     case measure=>simp [intOf]; omega
    ·obtain rfl:j=k:=by omega
     have hrow':Row wr w.heap.size 37 j (u32s (List.replicate j r0)):=by simpa using hrow
     have HLC:=Lib.hid (HLY.out wr hbel hrow')
     rw [← HF.out.1,← HF.out.2,HM.AllocV_eq] at HLC
     clear hrow hrow' hbel HLY HS HB0
     go_wp2_with fail
     refine HLC.out.mono ?_
     rintro e w2 ⟨p2,rfl,R2,S2⟩
     have HR2:=Lib.hid R2
     have HS2:=Lib.hid S2
     clear R2 S2
     go_wp2_with fail
     go_ret2
     exact⟨p2,by rw [HM.AllocV_eq]; rfl,HR2.out,(Step.of_below HBEL.out).trans HS2.out⟩
  ·have HF:=Lib.hid (show h.AllocH c 2 (k:Int)=(if h.size<h.words.length+3+k∨h.last=4294967295 then h else h.pushH ⟨k,2,0,c,0⟩ (List.replicate k 0))∧
    h.AllocV c 2 (k:Int)=(if h.size<h.words.length+3+k∨h.last=4294967295 then .tuple #[.int .u32 0,.int .i64 4] else .tuple #[.int .u32 (2*h.words.length:Nat),.int .i64 0]) by
    have hok:allocOk 2 (k:Int)=true:=by simp [allocOk]; omega
    unfold HM.AllocH HM.AllocV
    rw [if_pos hok,if_pos hok]
    exact push_eq c 2 k HCL.out)
   have HLY:=Lib.hid (fun wr hb hr=>rlay_any (w:=wr) (R.below hb) f c 2 0 w.heap.size k (List.replicate k 0) hc (by omega) (by omega) hn (by simp) hr HNP.out)
   clear R
   go_enter Tryz.func51,Tryz.ntmps51
   go_wp2_with fail
   refine HK.out.mono ?_
   rintro e w1 ⟨rfl,rfl⟩
   go_wp2_with fail
   have HS:=Lib.hid (zcells_row w 37 k 0 (by simp only [maxLen]; omega))
   have HB0:=Lib.hid (show Below w.heap.size w (w.alloc (.cells (zcells (.int .u32 0) k) 37)) from (Below.refl _ _).alloc (Nat.le_refl _) _)
   clear hmk
   go_loopw [11] (fun i wr=>i = .int .i64 0∧wr=w.alloc (.cells (zcells (.int .u32 0) k) 37)) (fun _ _=>0)
   case atStart=>exact⟨rfl,rfl⟩
   case round=>
    obtain⟨rfl,rfl⟩:=hrel
    have HLC:=Lib.hid (HLY.out _ HB0.out HS.out)
    rw [← HF.out.1,← HF.out.2,HM.AllocV_eq] at HLC
    clear HLY HS
    rcases Nat.eq_zero_or_pos k with h0 | h0
    ·subst h0
     go_wp2_with fail
     refine HLC.out.mono ?_
     rintro e w2 ⟨p2,rfl,R2,S2⟩
     have HR2:=Lib.hid R2
     have HS2:=Lib.hid S2
     clear R2 S2
     go_wp2_with fail
     go_ret2
     exact⟨p2,by rw [HM.AllocV_eq]; rfl,HR2.out,(Step.of_below HB0.out).trans HS2.out⟩
    ·have hz:decide ((0:Int)<(k:Int))=true:=by simp; omega
     go_wp2_with fail
     refine HLC.out.mono ?_
     rintro e w2 ⟨p2,rfl,R2,S2⟩
     have HR2:=Lib.hid R2
     have HS2:=Lib.hid S2
     clear R2 S2
     go_wp2_with fail
     go_ret2
     exact⟨p2,by rw [HM.AllocV_eq]; rfl,HR2.out,(Step.of_below HB0.out).trans HS2.out⟩
  ·have HF:=Lib.hid (show h.AllocH c 3 (k:Int)=(if h.size<h.words.length+3+k∨h.last=4294967295 then h else h.pushH ⟨k,3,0,c,0⟩ (List.replicate k 0))∧
    h.AllocV c 3 (k:Int)=(if h.size<h.words.length+3+k∨h.last=4294967295 then .tuple #[.int .u32 0,.int .i64 4] else .tuple #[.int .u32 (2*h.words.length:Nat),.int .i64 0]) by
    have hok:allocOk 3 (k:Int)=true:=by simp [allocOk]; omega
    unfold HM.AllocH HM.AllocV
    rw [if_pos hok,if_pos hok]
    exact push_eq c 3 k HCL.out)
   have HLY:=Lib.hid (fun wr hb hr=>rlay_any (w:=wr) (R.below hb) f c 3 0 w.heap.size k (List.replicate k 0) hc (by omega) (by omega) hn (by simp) hr HNP.out)
   clear R
   go_enter Tryz.func51,Tryz.ntmps51
   go_wp2_with fail
   refine HK.out.mono ?_
   rintro e w1 ⟨rfl,rfl⟩
   go_wp2_with fail
   have HS:=Lib.hid (zcells_row w 37 k 0 (by simp only [maxLen]; omega))
   have HB0:=Lib.hid (show Below w.heap.size w (w.alloc (.cells (zcells (.int .u32 0) k) 37)) from (Below.refl _ _).alloc (Nat.le_refl _) _)
   clear hmk
   go_loopw [11] (fun i wr=>i = .int .i64 0∧wr=w.alloc (.cells (zcells (.int .u32 0) k) 37)) (fun _ _=>0)
   case atStart=>exact⟨rfl,rfl⟩
   case round=>
    obtain⟨rfl,rfl⟩:=hrel
    have HLC:=Lib.hid (HLY.out _ HB0.out HS.out)
    rw [← HF.out.1,← HF.out.2,HM.AllocV_eq] at HLC
    clear HLY HS
    rcases Nat.eq_zero_or_pos k with h0 | h0
    ·subst h0
     go_wp2_with fail
     refine HLC.out.mono ?_
     rintro e w2 ⟨p2,rfl,R2,S2⟩
     have HR2:=Lib.hid R2
     have HS2:=Lib.hid S2
     clear R2 S2
     go_wp2_with fail
     go_ret2
     exact⟨p2,by rw [HM.AllocV_eq]; rfl,HR2.out,(Step.of_below HB0.out).trans HS2.out⟩
    ·have hz:decide ((0:Int)<(k:Int))=true:=by simp; omega
     go_wp2_with fail
     refine HLC.out.mono ?_
     rintro e w2 ⟨p2,rfl,R2,S2⟩
     have HR2:=Lib.hid R2
     have HS2:=Lib.hid S2
     clear R2 S2
     go_wp2_with fail
     go_ret2
     exact⟨p2,by rw [HM.AllocV_eq]; rfl,HR2.out,(Step.of_below HB0.out).trans HS2.out⟩
set_option maxRecDepth 100000 in
set_option maxHeartbeats 4000000 in
theorem rMake_any (c:Nat) (hc:c<4294967296) (A:Option Addr) (n cap:Nat) (bs:List Nat) (hn:n≤9223372036854775807) (hr:Reads w w.heap.size 1 A n (u8c bs)) (hb:∀ x∈bs,x<256):
 Calls Tryz.prog 59 #[ptr p.g,.int .u32 c,.slice A n cap] w (RMade p (h.makeH c bs) (h.makeV c bs) w):=by
 have hl:bs.length=n:=by have:=hr.1; simpa [u8c] using this
 have HK:=Lib.hid (risclass_any R f c hc)
 have HR:=Lib.hid R
 unfold ptr at HK ⊢
 by_cases hlong:262140<n
 ·have HF:=Lib.hid (show h.makeH c bs=h∧h.makeV c bs = .tuple #[.int .u32 0,.int .i64 2] by simp [HM.makeH,HM.makeV,HM.makeE,hl,hlong])
  clear hl hr R
  go_enter Tryz.func59,Tryz.ntmps59
  go_wp2_with fail
  go_ret2
  exact⟨p,by rw [HF.out.2]; rfl,by rw [HF.out.1]; exact HR.out,Step.refl _ _⟩
 cases hcl:h.clsB c
 ·have HF:=Lib.hid (show h.makeH c bs=h∧h.makeV c bs = .tuple #[.int .u32 0,.int .i64 3] by
   have e:(makeX c bs).cls=c:=rfl
   simp [HM.makeH,HM.makeV,HM.makeE,HM.allocE,hl,hlong,e,hcl])
  rw [hcl] at HK
  clear hl hr R hcl
  go_enter Tryz.func59,Tryz.ntmps59
  go_wp2_with fail
  refine HK.out.mono ?_
  rintro e w1 ⟨rfl,rfl⟩
  go_wp2_with fail
  go_ret2
  exact⟨p,by rw [HF.out.2]; rfl,by rw [HF.out.1]; exact HR.out,Step.refl _ _⟩
 ·rw [hcl] at HK
  have HE:=Lib.hid (make_eq (h:=h) c bs (by omega) hcl)
  have HLN:=Lib.hid (rlength_any n (by omega) w)
  have HPK:=Lib.hid (rpackBytes_any (w:=w) A n cap w.heap.size bs (by omega) hr (Nat.le_refl _) hb)
  have hpl:=packM_len bs
  rw [hl] at hpl
  have HLY:=Lib.hid (fun wr gf (hb:Below w.heap.size w wr) (hg:w.heap.size≤gf) hrow=>rlay_any (w:=wr) (R.below hb) f c 2 (4*((n+3) / 4)-n) gf ((n+3) / 4) (packM bs) hc (by omega) (by omega) (by omega) hpl hrow
   (fun hh=>by have:=R.lt hh; omega))
  have hx:(⟨(n+3) / 4,2,4*((n+3) / 4)-n,c,0⟩ :Hd)=makeX c bs:=by unfold makeX; rw [hl]
  rw [hx] at HLY
  rw [hl] at HE
  rw [← HE.out.1,← HE.out.2,HM.makeV_eq] at HLY
  unfold RPackB at HPK
  rw [hpl] at HPK
  clear hx HE hr R hcl hpl hl
  generalize 4*((n+3) / 4)-n=sp at *
  generalize (n+3) / 4=F at *
  go_enter Tryz.func59,Tryz.ntmps59
  go_wp2_with fail
  refine HK.out.mono ?_
  rintro e w1 ⟨rfl,rfl⟩
  go_wp2_with fail
  refine HLN.out.mono ?_
  rintro e w1 ⟨rfl,rfl⟩
  go_wp2_with fail
  refine HPK.out.mono ?_
  rintro e w1 ⟨gf,rfl,hrow,hge,hbel⟩
  have HLC:=Lib.hid (HLY.out w1 gf hbel hge hrow)
  have HBEL:=Lib.hid hbel
  clear hrow hge hbel HPK HLY
  go_wp2_with fail
  refine HLC.out.mono ?_
  rintro e w2 ⟨p2,rfl,R2,S2⟩
  have HR2:=Lib.hid R2
  have HS2:=Lib.hid S2
  clear R2 S2
  go_wp2_with fail
  go_ret2
  exact⟨p2,by rw [HM.makeV_eq]; rfl,HR2.out,(Step.of_below HBEL.out).trans HS2.out⟩
end
end
section
open Go.RowKit
def HM.res (h:HM) (s:Nat):HM:={ h with size:=s }
section
variable (h:HM) (s:Nat)
theorem res_put (o:Nat) (i:Int) (v:Nat):(h.res s).putH o i v=(h.putH o i v).res s:=by
 unfold HM.putH
 show (if h.putE o i v=0 then (h.res s).setF o i.toNat v else h.res s)=_
 split <;> rfl
theorem res_setClass (o c:Nat):(h.res s).setClassH o c=(h.setClassH o c).res s:=by
 unfold HM.setClassH
 show (if h.setClassE o c=0 then _ else h.res s)=_
 split <;> rfl
theorem res_setRoot (i:Int) (v:Nat):(h.res s).setRootH i v=(h.setRootH i v).res s:=by
 unfold HM.setRootH
 show (if h.setRootE i v=0 then _ else h.res s)=_
 split <;> rfl
theorem put_len (o:Nat) (i:Int) (v:Nat):(h.putH o i v).words.length=h.words.length:=by
 unfold HM.putH
 split
 ·unfold HM.setF; simp
 ·rfl
theorem setRoot_len (i:Int) (v:Nat):(h.setRootH i v).words.length=h.words.length:=by
 unfold HM.setRootH
 split <;> rfl
theorem setClass_len (o c:Nat):(h.setClassH o c).words.length=h.words.length:=by
 unfold HM.setClassH
 split
 ·simp
 ·rfl
end
theorem res_allocE {h:HM} {x:Hd} (h0:h.allocE x=0) (s:Nat):(h.res s).allocE x=if s<h.words.length+3+x.size then 4 else 0:=by
 unfold HM.allocE at h0 ⊢
 show (if h.clsB x.cls=false then 3 else if s<h.words.length+3+x.size∨h.last=4294967295 then 4 else 0)=_
 split at h0
 ·omega
 ·rename_i hc
  rw [if_neg hc]
  split at h0
  ·omega
  ·rename_i h1
   by_cases h2:s<h.words.length+3+x.size
   ·rw [if_pos (.inl h2),if_pos h2]
   ·rw [if_neg h2,if_neg (by rintro (h3 | h3); exact h2 h3; exact h1 (.inr h3))]
theorem push_len (h:HM) (x:Hd) (ys:List Nat):(h.pushH x ys).words.length=h.words.length+3+ys.length:=by
 unfold HM.pushH
 simp only [List.length_append,List.length_cons,List.length_nil]
theorem res_Alloc {h:HM} {c:Nat} {f n:Int} (h0:h.AllocE c f n=0) (s:Nat):
 (h.AllocH c f n).words.length=h.words.length+3+n.toNat∧
 (h.words.length+3+n.toNat≤s→(h.res s).AllocE c f n=0∧(h.res s).AllocH c f n=(h.AllocH c f n).res s)∧
 (s<h.words.length+3+n.toNat→(h.res s).AllocE c f n=4∧(h.res s).AllocH c f n=h.res s):=by
 have e:=h0
 unfold HM.AllocE at h0
 split at h0
 ·rename_i hok
  have hp:h.AllocH c f n=h.pushH (mkHd c f n) (List.replicate (mkHd c f n).size (h.fill (mkHd c f n))):=by unfold HM.AllocH HM.allocH; rw [if_pos hok,if_pos h0]
  have hz:(mkHd c f n).size=n.toNat:=rfl
  refine⟨by rw [hp,push_len,List.length_replicate]; rfl,fun hs=>?_,fun hs=>?_⟩
  ·have e1:(h.res s).allocE (mkHd c f n)=0:=by rw [res_allocE h0,if_neg (by rw [hz]; omega)]
   refine⟨by unfold HM.AllocE; rw [if_pos hok,e1],?_⟩
   rw [hp]
   unfold HM.AllocH HM.allocH
   rw [if_pos hok,if_pos e1]
   rfl
  ·have e1:(h.res s).allocE (mkHd c f n)=4:=by rw [res_allocE h0,if_pos (by rw [hz]; omega)]
   refine⟨by unfold HM.AllocE; rw [if_pos hok,e1],?_⟩
   unfold HM.AllocH HM.allocH
   rw [if_pos hok,if_neg (by rw [e1]; decide)]
 ·omega
end
end Go.Proofs.YtdoahpflemgaeaaGreatDoor
