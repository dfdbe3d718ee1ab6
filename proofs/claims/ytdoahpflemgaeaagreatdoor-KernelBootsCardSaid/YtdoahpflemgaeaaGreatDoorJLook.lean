import Derived.Test.YtdoahpflemgaeaaGreatDoorJMay
import Derived.Test.YtdoahpflemgaeaaGreatDoorJBase
import Derived.Test.YtdoahpflemgaeaaGreatDoorJOop
import Derived.Deep.LoopGhost
import Derived.Deep.RegionWith
set_option linter.unusedVariables false
set_option linter.unusedSectionVars false
namespace Go.Proofs.YtdoahpflemgaeaaGreatDoor
section
open Go.RowKit
def ints (l:List Nat):List Value:=l.map fun x:Nat=> .int .i64 (x:Int)
theorem ints_at {zs:List Nat} {k:Nat} {u:Value} (h:(ints zs)[k]? = some u):∃ x,zs[k]? = some x∧u = .int .i64 (x:Int):=by
 unfold ints at h
 rw [List.getElem?_map] at h
 cases hz:zs[k]? with
 | none=>rw [hz] at h; cases h
 | some x=>rw [hz] at h; exact⟨x,rfl,by injection h with h; exact h.symm⟩
def idxPost (fs:List Nat) (x:Nat) (w:World) (e:Ending) (w':World):Prop:=∃ j:Int,e = .returned (.int .i64 j)∧(decide (0≤j)=fs.contains x)∧ -1≤j∧j≤9223372036854775807∧w=w'
theorem take_contains_none {fs:List Nat} {x k y:Nat} (hy:fs[k]? = some y) (hne:x≠y) (h:(fs.take k).contains x=false):(fs.take (k+1)).contains x=false:=by
 rw [List.take_add_one,hy]
 simp at h ⊢
 exact⟨h,hne⟩
theorem contains_of_get {fs:List Nat} {x k:Nat} (hy:fs[k]? = some x):fs.contains x=true:=by
 simp
 exact List.mem_of_getElem? hy
set_option maxHeartbeats 400000 in
theorem index_fmt (A:Option Addr) (n c B:Nat) (fs:List Nat) (x:Nat) (w:World) (hn:n≤9223372036854775807) (hr:Reads w B 1 A n (ints fs)):
 Calls Tryz.prog 156 #[.slice A n c,.int .i64 x] w (idxPost fs x w):=by
 have hl:fs.length=n:=by have:=hr.1; simpa [ints] using this
 have HL:=Lib.hid hl; clear hl
 have HR:=Lib.hid hr; clear hr
 go_enter Tryz.func156,Tryz.ntmps156
 go_wp2_with fail
 go_loop [8] (fun i=>∃ k:Nat,k≤n∧i = .int .i64 k∧(fs.take k).contains x=false) (fun i=>n-(intOf i).toNat)
 case atStart=>exact⟨0,by omega,rfl,by simp⟩
 case round=>
  obtain⟨k,hk,rfl,hno⟩:=hrel
  have HNO:=Lib.hid hno; clear hno
  by_cases hlt:k<n
  ·obtain⟨ad,u0,rfl,_,hx,hcell⟩:=HR.out.at_ hlt
   obtain⟨y,hy,rfl⟩:=ints_at hx
   clear hx
   have HY:=Lib.hid hy; clear hy
   by_cases hxy:x=y
   ·subst hxy
    go_wp2_with fail
    go_ret
    exact⟨k,rfl,by rw [contains_of_get HY.out]; simp,by omega,by omega,rfl⟩
   ·have hb:((x:Int) == (y:Int))=false:=beq_eq_false_iff_ne.2 (by omega)
    have HXY:=Lib.hid hxy; clear hxy
    go_wp2_with fail
    go_round
    case rel=>exact⟨k+1,by omega,by go_num,take_contains_none HY.out HXY.out HNO.out⟩
    case measure=>simp [intOf]; omega
  ·obtain rfl:k=n:=by omega
   have hall:=HNO.out
   rw [List.take_of_length_le (by rw [HL.out]; omega)] at hall
   have HA:=Lib.hid hall; clear hall
   go_wp2_with fail
   go_ret
   exact⟨-1,rfl,by rw [HA.out]; simp,by omega,by omega,rfl⟩
theorem contains_fmt (A:Option Addr) (n c B:Nat) (fs:List Nat) (x:Nat) (w:World) (hn:n≤9223372036854775807) (hr:Reads w B 1 A n (ints fs)):
 Calls Tryz.prog 132 #[.slice A n c,.int .i64 x] w fun e w'=>e = .returned (.bool (fs.contains x))∧w=w':=by
 have HR:=Lib.hid hr; clear hr
 go_enter Tryz.func132,Tryz.ntmps132
 go_wp2_with fail
 refine (index_fmt A n c B fs x w hn HR.out).mono ?_
 rintro e w' ⟨j,rfl,hj,hlo,hhi,rfl⟩
 have HJ:=Lib.hid hj; clear hj
 go_wp2_with fail
 go_ret
 exact⟨by rw [← HJ.out]; rfl,rfl⟩
def Hd.len (x:Hd):Nat:=if x.fmt=2 then 4*x.size-x.spare else x.size
def Hd.ptrB (x:Hd):Bool:=decide (x.fmt=1) || decide (x.fmt=4)
theorem pointers_any (x:Hd) (f:x.Fit) (w:World):
 Calls Tryz.prog 130 #[x.val] w fun e w'=>e = .returned (.bool x.ptrB)∧Below w.heap.size w w':=by
 obtain⟨n,t,s,c,r⟩:=x
 obtain⟨f1,f2,f3,f4,f5⟩:=f
 simp only at f1 f2 f3 f4 f5
 unfold Hd.val
 by_cases h1:t=1
 ·subst h1
  go_enter Tryz.func130,Tryz.ntmps130
  go_wp2_with fail
  go_ret
  exact⟨rfl,(Below.refl _ _).alloc (Nat.le_refl _) _⟩
 ·have hb:((t:Int) == 1)=false:=by simp; omega
  have HF:=Lib.hid (show Hd.ptrB ⟨n,t,s,c,r⟩=((t:Int) == 4) by
   unfold Hd.ptrB; simp only [h1,decide_false,Bool.false_or]
   by_cases h4:t=4
   ·subst h4; rfl
   ·rw [show ((t:Int) == 4)=false by simp; omega]; simp [h4])
  clear h1
  go_enter Tryz.func130,Tryz.ntmps130
  go_wp2_with fail
  go_ret
  exact⟨by rw [HF.out]; rfl,(Below.refl _ _).alloc (Nat.le_refl _) _⟩
theorem length_any (x:Hd) (f:x.Fit) (hs:x.fmt=2→x.spare≤4*x.size) (w:World):
 Calls Tryz.prog 133 #[x.val] w fun e w'=>e = .returned (.int .i64 x.len)∧Below w.heap.size w w':=by
 obtain⟨n,t,s,c,r⟩:=x
 obtain⟨f1,f2,f3,f4,f5⟩:=f
 simp only at f1 f2 f3 f4 f5 hs
 unfold Hd.val
 by_cases h1:t=2
 ·subst h1
  have h2:=hs rfl
  have HF:=Lib.hid (show ((Hd.len ⟨n,2,s,c,r⟩ :Nat):Int)=4*(n:Int)-s by simp [Hd.len]; omega)
  clear hs
  go_enter Tryz.func133,Tryz.ntmps133
  go_wp2_with fail
  go_ret
  exact⟨by rw [HF.out]; rfl,(Below.refl _ _).alloc (Nat.le_refl _) _⟩
 ·have hb:((t:Int) == 2)=false:=by simp; omega
  have HF:=Lib.hid (show Hd.len ⟨n,t,s,c,r⟩=n by simp [Hd.len,h1])
  clear h1 hs
  go_enter Tryz.func133,Tryz.ntmps133
  go_wp2_with fail
  go_ret
  exact⟨by rw [HF.out]; rfl,(Below.refl _ _).alloc (Nat.le_refl _) _⟩
def Hd.sane (x:Hd):Prop:=x.fmt=2→x.spare≤4*x.size
theorem okhd_sane {a b c:Nat} (h:okhd a b c=true):(unhd a b c).sane:=by
 intro hf
 unfold okhd Hd.may at h
 simp only [Bool.and_eq_true,Bool.or_eq_true,decide_eq_true_eq] at h
 have hs:(unhd a b c).spare<4:=Nat.mod_lt _ (by omega)
 omega
theorem HM.hdAt.sane {h:HM} {i:Nat} (hi:h.hdAt i):(h.hd i).sane:=okhd_sane hi.2
def HM.lookE (h:HM) (o:Nat) (i:Int) (fs:List Nat):Nat:=
 if h.isB o=false then 3 else if fs.contains (h.hd (o / 2)).fmt=false then 21 else if i<0∨((h.hd (o / 2)).len:Int)≤i then 1 else 0
def HM.lookV (h:HM) (o:Nat) (i:Int) (fs:List Nat):Value:=.tuple #[.int .i64 ((if h.lookE o i fs=0 then o / 2+3 else 0:Nat):Int),.int .i64 (h.lookE o i fs)]
set_option maxHeartbeats 2000000 in
theorem look_any {w:World} {p:HP} {h:HM} (H:HAt w p h) (f:h.Fit) (hh:h.Heads) (hs:Spares w) (o:Nat) (ho:o<4294967296) (i:Int) (A:Option Addr) (n c:Nat) (fs:List Nat)
 (hn:n≤9223372036854775807) (hr:Reads w w.heap.size 1 A n (ints fs)):
 Calls Tryz.prog 87 #[ptr p.g,.int .u32 o,.int .i64 i,.slice A n c] w fun e w'=>e = .returned (h.lookV o i fs)∧Below w.heap.size w w':=by
 have HC:=Lib.hid (Header_any H f hh hs o ho)
 have HR:=Lib.hid hr; clear hr
 cases hi:h.isB o
 ·have HH:=Lib.hid (show h.headerV o = .tuple #[.agg #[.int .i64 0,.int .i64 0,.int .i64 0,.int .u32 0,.int .u32 0],.int .i64 3] by simp [HM.headerV,hi])
  have HF:=Lib.hid (show h.lookV o i fs = .tuple #[.int .i64 0,.int .i64 3] by simp [HM.lookV,HM.lookE,hi])
  rw [HH.out] at HC
  clear HH hi
  unfold ptr at HC ⊢
  go_enter Tryz.func87,Tryz.ntmps87
  go_wp2_with fail
  refine HC.out.mono ?_
  rintro e w1 ⟨rfl,hb1⟩
  go_wp2_with fail
  go_ret2
  exact⟨by rw [HF.out]; rfl,hb1.alloc hb1.size _⟩
 ·have hk:objB o=true:=by unfold HM.isB at hi; simp only [Bool.and_eq_true] at hi; exact hi.1
  have hd:h.hdAt (o / 2):=hh _ (by unfold HM.isB at hi; simp only [Bool.and_eq_true] at hi; exact hi.2)
  have hx:=HM.hd_fit f (o / 2)
  have hsane:=hd.sane
  have HH:=Lib.hid (show h.headerV o = .tuple #[(h.hd (o / 2)).val,.int .i64 0] by simp [HM.headerV,hi])
  have HA:=Lib.hid (fun w=>at_any p.g o ho hk w)
  have HE:=Lib.hid (show h.lookE o i fs=if fs.contains (h.hd (o / 2)).fmt=false then 21 else if i<0∨((h.hd (o / 2)).len:Int)≤i then 1 else 0 by simp [HM.lookE,hi])
  have HV:=Lib.hid (show h.lookV o i fs = .tuple #[.int .i64 ((if h.lookE o i fs=0 then o / 2+3 else 0:Nat):Int),.int .i64 (h.lookE o i fs)] from rfl)
  rw [HE.out] at HV
  rw [HH.out] at HC
  clear hd hk hi HH HE
  have hq:o / 2<2147483648:=by omega
  generalize o / 2=q at *
  have HLC:=Lib.hid (fun w=>length_any (h.hd q) hx hsane w)
  have hlen:(h.hd q).len<4294967296:=by
   have:=hx.size; unfold Hd.len; split <;> omega
  have HX:=Lib.hid (show (h.hd q).val = .agg #[.int .i64 (h.hd q).size,.int .i64 (h.hd q).fmt,.int .i64 (h.hd q).spare,.int .u32 (h.hd q).cls,.int .u32 (h.hd q).ser] from rfl)
  rw [HX.out] at HC HLC
  clear hsane HX
  generalize h.hd q=x at *
  obtain⟨f1,f2,f3,f4,f5⟩:=hx
  unfold ptr at HC HA ⊢
  go_enter Tryz.func87,Tryz.ntmps87
  go_wp2_with fail
  refine HC.out.mono ?_
  rintro e w1 ⟨rfl,hb1⟩
  have hb2:=hb1.alloc hb1.size (.cells #[.int .i64 x.size,.int .i64 x.fmt,.int .i64 x.spare,.int .u32 x.cls,.int .u32 x.ser] 137)
  have HR2:=Lib.hid (HR.out.below hb2)
  go_wp2_with fail
  refine (contains_fmt A n c _ fs x.fmt _ hn HR2.out).mono ?_
  rintro e w2 ⟨rfl,rfl⟩
  cases hc:fs.contains x.fmt
  ·rw [hc] at HV
   simp only [if_true] at HV
   go_wp2_with fail
   go_ret2
   exact⟨by rw [HV.out]; rfl,hb2⟩
  ·rw [hc] at HV
   simp only [Bool.true_eq_false,if_false] at HV
   clear hc
   by_cases hneg:i<0
   ·rw [if_pos (Or.inl hneg)] at HV
    have hd:decide (i<0)=true:=by simpa using hneg
    go_wp2_with fail
    go_ret2
    exact⟨by rw [HV.out]; rfl,hb2⟩
   ·have hd:decide (i<0)=false:=by simpa using hneg
    by_cases hge:(x.len:Int)≤i
    ·rw [if_pos (Or.inr hge)] at HV
     have hd2:decide ((x.len:Int)≤i)=true:=by simpa using hge
     go_wp2_with fail
     refine (HLC.out _).mono ?_
     rintro e w2 ⟨rfl,hb3⟩
     go_wp2_with fail
     go_ret2
     exact⟨by rw [HV.out]; rfl,below_top hb2 hb3⟩
    ·rw [if_neg (show ¬(i<0∨(x.len:Int)≤i) by omega)] at HV
     have hd2:decide ((x.len:Int)≤i)=false:=by simpa using hge
     go_wp2_with fail
     refine (HLC.out _).mono ?_
     rintro e w2 ⟨rfl,hb3⟩
     go_wp2_with fail
     refine (HA.out _).mono ?_
     rintro e w3 ⟨rfl,rfl⟩
     go_wp2_with fail
     go_ret2
     exact⟨by rw [HV.out]; simp,below_top hb2 hb3⟩
end
section
open Go.RowKit
def fw (h:HM) (o k:Nat):Nat:=h.w (o / 2+3+k)
def HM.readV (h:HM) (o:Nat) (i:Int) (fs:List Nat):Value:=
 .tuple #[.int .u32 ((if h.lookE o i fs=0 then fw h o i.toNat else 0:Nat):Int),.int .i64 (h.lookE o i fs)]
theorem HM.look_ok {h:HM} {o:Nat} {i:Int} {fs:List Nat} (he:h.lookE o i fs=0):
 h.isB o=true∧fs.contains (h.hd (o / 2)).fmt=true∧0≤i∧i<(h.hd (o / 2)).len:=by
 unfold HM.lookE at he
 split at he
 ·omega
 ·rename_i h1
  split at he
  ·omega
  ·rename_i h2
   split at he
   ·omega
   ·rename_i h3
    exact⟨by simpa using h1,by simpa using h2,by omega,by omega⟩
theorem HM.isB_hd {h:HM} (hh:h.Heads) {o:Nat} (hi:h.isB o=true):h.hdAt (o / 2):=
 hh _ (by unfold HM.isB at hi; simp only [Bool.and_eq_true] at hi; exact hi.2)
theorem HM.isB_obj {h:HM} {o:Nat} (hi:h.isB o=true):objB o=true:=by
 unfold HM.isB at hi; simp only [Bool.and_eq_true] at hi; exact hi.1
theorem HM.lookE_lt (h:HM) (o:Nat) (i:Int) (fs:List Nat):h.lookE o i fs≤21:=by
 unfold HM.lookE; split <;> (try split) <;> (try split) <;> omega
section
variable {w:World} {p:HP} {h:HM} (H:HAt w p h) (f:h.Fit) (hh:h.Heads) (hs:Spares w) (o:Nat) (ho:o<4294967296) (i:Int)
include H f hh hs ho
set_option maxHeartbeats 1000000 in
theorem get_any:Calls Tryz.prog 119 #[ptr p.g,.int .u32 o,.int .i64 i] w fun e w'=>e = .returned (h.readV o i [1,4])∧Below w.heap.size w w':=by
 have hb0:∀ o,Below w.heap.size w (w.alloc o):=fun o=>(Below.refl _ _).alloc (Nat.le_refl _) _
 have HC:=Lib.hid (look_any (H.below (hb0 (.cells #[.int .i64 1,.int .i64 4] 65))) f hh (hs.below (hb0 _)) o ho i (some ⟨w.heap.size,0,none⟩) 2 2 [1,4] (by omega)
  ⟨rfl,fun _=>⟨_,rfl,by simp,fun j u hj=>by
    rw [WideShapes.add_plain,Nat.zero_add,(Blk.new w _ _).cell]
    simpa [ints] using hj⟩⟩)
 have HV:=Lib.hid (show h.readV o i [1,4] = .tuple #[.int .u32 ((if h.lookE o i [1,4]=0 then fw h o i.toNat else 0:Nat):Int),.int .i64 (h.lookE o i [1,4])] from rfl)
 have HL:=Lib.hid (show h.lookV o i [1,4] = .tuple #[.int .i64 ((if h.lookE o i [1,4]=0 then o / 2+3 else 0:Nat):Int),.int .i64 (h.lookE o i [1,4])] from rfl)
 rw [HL.out] at HC
 clear HL
 have hle:=h.lookE_lt o i [1,4]
 unfold ptr at HC ⊢
 by_cases he:h.lookE o i [1,4]=0
 ·obtain⟨hi,hc,h0,hlt⟩:=HM.look_ok he
  have hd:=(HM.isB_hd hh hi).1
  have hsz:(h.hd (o / 2)).len=(h.hd (o / 2)).size:=by
   unfold Hd.len; rw [if_neg (fun e=>by rw [e] at hc; simp at hc)]
  rw [hsz] at hlt
  obtain⟨k,rfl⟩:=Int.eq_ofNat_of_zero_le h0
  have hk:o / 2+3+k<h.words.length:=by omega
  have hcell:∀ w',Below w.heap.size w w'→w'.cell? ⟨p.gw,o / 2+3+k,none⟩=some (.int .u32 (fw h o k:Nat)):=fun w' hb=>(H.below hb).word hk
  have hc0:∀ w',Below w.heap.size w w'→w'.cell? ⟨p.g,0,none⟩=some (.slice (some ⟨p.gw,0,none⟩) h.words.length p.cw):=fun w' hb=>(H.below hb).c0
  have HCC:=Lib.hid hcell
  have HC0:=Lib.hid hc0
  have hmx:=f.room
  have hmx2:=f.hi
  rw [he] at HC HV
  simp only [if_true,Int.toNat_natCast] at HC HV
  clear he hi hc hd hsz hlt hcell hc0 hle
  have hq:o / 2<2147483648:=by omega
  generalize fw h o k=v at *
  generalize o / 2=q at *
  generalize h.words.length=len at *
  go_enter Tryz.func119,Tryz.ntmps119
  go_wp2_with fail
  refine HC.out.mono ?_
  rintro e w1 ⟨rfl,hb1⟩
  have hb:=below_top (hb0 _) hb1
  have c0:=HC0.out _ hb
  have cv:=HCC.out _ hb
  go_wp2_with fail
  go_ret2
  exact⟨by rw [HV.out]; rfl,hb⟩
 ·have hne:((h.lookE o i [1,4]:Int) != 0)=true:=by simp; omega
  simp only [if_neg he] at HC HV
  generalize h.lookE o i [1,4]=E at *
  clear he
  go_enter Tryz.func119,Tryz.ntmps119
  go_wp2_with fail
  refine HC.out.mono ?_
  rintro e w1 ⟨rfl,hb1⟩
  go_wp2_with fail
  go_ret2
  exact⟨by rw [HV.out]; rfl,below_top (hb0 _) hb1⟩
end
def HM.putE (h:HM) (o:Nat) (i:Int) (v:Nat):Nat:=if h.lookE o i [1,4]=0 then (if h.valB v then 0 else 3) else h.lookE o i [1,4]
def HM.setF (h:HM) (o k v:Nat):HM:={ h with words:=h.words.set (o / 2+3+k) v }
def HM.putH (h:HM) (o:Nat) (i:Int) (v:Nat):HM:=if h.putE o i v=0 then h.setF o i.toNat v else h
def Deeds (p:HP) (h':HM) (E:Nat) (w:World) (e:Ending) (w':World):Prop:=e = .returned (.int .i64 E)∧HAt w' p h'∧Step p p w w'
section
variable {w:World} {p:HP} {h:HM} (H:HAt w p h) (f:h.Fit) (hh:h.Heads) (hs:Spares w) (o:Nat) (ho:o<4294967296) (i:Int)
include H f hh hs ho
set_option maxHeartbeats 1000000 in
theorem put_any (v:Nat) (hv:v<4294967296):Calls Tryz.prog 44 #[ptr p.g,.int .u32 o,.int .i64 i,.int .u32 v] w (Deeds p (h.putH o i v) (h.putE o i v) w):=by
 have hb0:∀ o,Below w.heap.size w (w.alloc o):=fun o=>(Below.refl _ _).alloc (Nat.le_refl _) _
 have HC:=Lib.hid (look_any (H.below (hb0 (.cells #[.int .i64 1,.int .i64 4] 65))) f hh (hs.below (hb0 _)) o ho i (some ⟨w.heap.size,0,none⟩) 2 2 [1,4] (by omega)
  ⟨rfl,fun _=>⟨_,rfl,by simp,fun j u hj=>by
    rw [WideShapes.add_plain,Nat.zero_add,(Blk.new w _ _).cell]
    simpa [ints] using hj⟩⟩)
 have HL:=Lib.hid (show h.lookV o i [1,4] = .tuple #[.int .i64 ((if h.lookE o i [1,4]=0 then o / 2+3 else 0:Nat):Int),.int .i64 (h.lookE o i [1,4])] from rfl)
 rw [HL.out] at HC
 clear HL
 have hle:=h.lookE_lt o i [1,4]
 have HVC:=Lib.hid (fun w' (hb:Below w.heap.size w w')=>value_any (H.below hb) f v hv)
 by_cases he:h.lookE o i [1,4]=0
 ·obtain⟨hi,hc,h0,hlt⟩:=HM.look_ok he
  have hd:=(HM.isB_hd hh hi).1
  have hsz:(h.hd (o / 2)).len=(h.hd (o / 2)).size:=by
   unfold Hd.len; rw [if_neg (fun e=>by rw [e] at hc; simp at hc)]
  rw [hsz] at hlt
  obtain⟨k,rfl⟩:=Int.eq_ofNat_of_zero_le h0
  have hk:o / 2+3+k<h.words.length:=by omega
  have hmx:=f.room
  have hmx2:=f.hi
  have hE:h.putE o k v=if h.valB v then 0 else 3:=by simp [HM.putE,he]
  cases hval:h.valB v
  ·have HP':=Lib.hid (show h.putE o k v=3∧h.putH o k v=h by simp [HM.putH,hE,hval])
   rw [hval] at HVC
   rw [he] at HC
   simp only [if_true] at HC
   clear he hi hc hd hsz hlt hle hE hval
   have hq:o / 2<2147483648:=by omega
   generalize o / 2=q at *
   unfold ptr at HC HVC ⊢
   go_enter Tryz.func44,Tryz.ntmps44
   go_wp2_with fail
   refine HC.out.mono ?_
   rintro e w1 ⟨rfl,hb1⟩
   have hb:=below_top (hb0 _) hb1
   go_wp2_with fail
   refine (HVC.out _ hb).mono ?_
   rintro e w2 ⟨rfl,rfl⟩
   go_wp2_with fail
   go_ret
   exact⟨by rw [HP'.out.1]; rfl,by rw [HP'.out.2]; exact H.below hb,.of_below hb⟩
  ·have HP':=Lib.hid (show h.putE o k v=0∧h.putH o k v=h.setF o k v by simp [HM.putH,hE,hval])
   rw [hval] at HVC
   rw [he] at HC
   simp only [if_true] at HC
   clear he hi hc hd hsz hlt hle hE hval
   have hc0:∀ w',Below w.heap.size w w'→w'.cell? ⟨p.g,0,none⟩=some (.slice (some ⟨p.gw,0,none⟩) h.words.length p.cw):=fun w' hb=>(H.below hb).c0
   have hcell:∀ w',Below w.heap.size w w'→w'.cell? ⟨p.gw,o / 2+3+k,none⟩=some (.int .u32 (fw h o k:Nat)):=fun w' hb=>(H.below hb).word hk
   have hfz:∀ w',Below w.heap.size w w'→w'.frozen? ⟨p.gw,o / 2+3+k,none⟩=false:=fun w' hb=>(H.below hb).2.1.frozen _
   have HCC:=Lib.hid hcell
   have HC0:=Lib.hid hc0
   have HFZ:=Lib.hid hfz
   have HS:=Lib.hid (show ∀ w',Below w.heap.size w w'→HAt (w'.setCell ⟨p.gw,o / 2+3+k,none⟩ (.int .u32 v)) p (h.setF o k v) from fun w' hb=>(H.below hb).setWord _ _)
   clear hc0 hcell hfz
   have hq:o / 2<2147483648:=by omega
   generalize h.setF o k v=h2 at *
   generalize o / 2=q at *
   generalize h.words.length=len at *
   unfold ptr at HC HVC ⊢
   go_enter Tryz.func44,Tryz.ntmps44
   go_wp2_with fail
   refine HC.out.mono ?_
   rintro e w1 ⟨rfl,hb1⟩
   have hb:=below_top (hb0 _) hb1
   go_wp2_with fail
   refine (HVC.out _ hb).mono ?_
   rintro e w2 ⟨rfl,rfl⟩
   have c0:=HC0.out _ hb
   have cv:=HCC.out _ hb
   have cf:=HFZ.out _ hb
   go_wp2_with fail
   go_ret
   exact⟨by rw [HP'.out.1]; rfl,by rw [HP'.out.2]; exact HS.out _ hb,(Step.of_below hb).setCell (.inl (.inr (.inl rfl))) _⟩
 ·have hne:((h.lookE o i [1,4]:Int) != 0)=true:=by simp; omega
  simp only [if_neg he] at HC
  have HP':=Lib.hid (show h.putE o i v=h.lookE o i [1,4]∧h.putH o i v=h by simp [HM.putH,HM.putE,he])
  generalize h.lookE o i [1,4]=E at *
  clear he
  unfold ptr at HC HVC ⊢
  go_enter Tryz.func44,Tryz.ntmps44
  go_wp2_with fail
  refine HC.out.mono ?_
  rintro e w1 ⟨rfl,hb1⟩
  have hb:=below_top (hb0 _) hb1
  go_wp2_with fail
  go_ret
  exact⟨by rw [HP'.out.1]; rfl,by rw [HP'.out.2]; exact H.below hb,.of_below hb⟩
end
end
section
open Go.RowKit
theorem oat_any (i:Nat) (h1:1≤i) (h2:i≤2147483647) (w:World):Calls Tryz.prog 131 #[.int .i64 i] w fun e w'=>e = .returned (.tuple #[.int .u32 (2*i:Nat),.int .i64 0])∧w=w':=by
 have h3:((2*i:Nat):Int)=2*(i:Int):=by omega
 rw [h3]
 have h1':(1:Int)≤(i:Int):=by omega
 have h2':(i:Int)≤2147483647:=by omega
 clear h3
 go_enter Tryz.func131,Tryz.ntmps131
 go_wp2_with fail
 go_ret2
 exact⟨by simp,rfl⟩
section
variable {w:World} {p:HP} {h:HM}
theorem size_any (H:HAt w p h) (f:h.Fit):Calls Tryz.prog 28 #[ptr p.g] w fun e w'=>e = .returned (.int .i64 h.size)∧w=w':=by
 have hm:=Lib.hid (made_any H (by have:=f.lo; omega) f.hi)
 have c3:=H.c3
 unfold ptr at hm ⊢
 go_enter Tryz.func28,Tryz.ntmps28
 go_wp2_with fail
 refine hm.out.mono ?_
 rintro e w' ⟨rfl,rfl⟩
 go_wp2_with fail
 go_ret
 exact⟨by simp,rfl⟩
theorem top_any (H:HAt w p h) (f:h.Fit):Calls Tryz.prog 29 #[ptr p.g] w fun e w'=>e = .returned (.int .i64 h.words.length)∧w=w':=by
 have hm:=Lib.hid (made_any H (by have:=f.lo; omega) f.hi)
 have c3:=H.c0
 unfold ptr at hm ⊢
 go_enter Tryz.func29,Tryz.ntmps29
 go_wp2_with fail
 refine hm.out.mono ?_
 rintro e w' ⟨rfl,rfl⟩
 go_wp2_with fail
 go_ret
 exact⟨by simp,rfl⟩
theorem last_any (H:HAt w p h) (f:h.Fit):Calls Tryz.prog 31 #[ptr p.g] w fun e w'=>e = .returned (.int .u32 h.last)∧w=w':=by
 have hm:=Lib.hid (made_any H (by have:=f.lo; omega) f.hi)
 have c3:=H.c4
 unfold ptr at hm ⊢
 go_enter Tryz.func31,Tryz.ntmps31
 go_wp2_with fail
 refine hm.out.mono ?_
 rintro e w' ⟨rfl,rfl⟩
 go_wp2_with fail
 go_ret
 exact⟨by simp,rfl⟩
def HM.objM (h:HM) (i:Nat):Nat:=if h.words.length≤i then 0 else 2*i
theorem object_any (H:HAt w p h) (f:h.Fit) (i:Nat) (h1:1≤i) (h2:i≤2147483647):Calls Tryz.prog 176 #[ptr p.g,.int .i64 i] w fun e w'=>e = .returned (.int .u32 (h.objM i))∧w=w':=by
 have c0:=H.c0
 have hmx:=f.room
 have hmx2:=f.hi
 have HO:=Lib.hid (oat_any i h1 h2 w)
 unfold ptr
 by_cases hge:h.words.length≤i
 ·have HF:=Lib.hid (show h.objM i=0 by simp [HM.objM,hge])
  have hd:decide ((h.words.length:Int)≤(i:Int))=true:=by simp; omega
  generalize h.words.length=len at *
  go_enter Tryz.func176,Tryz.ntmps176
  go_wp2_with fail
  go_ret
  exact⟨by rw [HF.out]; rfl,rfl⟩
 ·have HF:=Lib.hid (show h.objM i=2*i by simp [HM.objM,hge])
  have hd:decide ((h.words.length:Int)≤(i:Int))=false:=by simp; omega
  generalize h.words.length=len at *
  go_enter Tryz.func176,Tryz.ntmps176
  go_wp2_with fail
  refine HO.out.mono ?_
  rintro e w' ⟨rfl,rfl⟩
  go_wp2_with fail
  go_ret
  exact⟨by rw [HF.out]; rfl,rfl⟩
theorem first_any (H:HAt w p h) (f:h.Fit):Calls Tryz.prog 163 #[ptr p.g] w fun e w'=>e = .returned (.int .u32 (h.objM 1))∧w=w':=by
 have hm:=Lib.hid (made_any H (by have:=f.lo; omega) f.hi)
 have HO:=Lib.hid (object_any H f 1 (by omega) (by omega))
 unfold ptr at hm HO ⊢
 go_enter Tryz.func163,Tryz.ntmps163
 go_wp2_with fail
 refine hm.out.mono ?_
 rintro e w' ⟨rfl,rfl⟩
 go_wp2_with fail
 refine HO.out.mono ?_
 rintro e w' ⟨rfl,rfl⟩
 go_wp2_with fail
 go_ret
 exact⟨by simp,rfl⟩
def HM.nextO (h:HM) (o:Nat):Nat:=h.objM (o / 2+3+(h.hd (o / 2)).size)
def HM.nextV (h:HM) (o:Nat):Value:=if h.isB o then .tuple #[.int .u32 (h.nextO o),.int .i64 0] else .tuple #[.int .u32 0,.int .i64 3]
set_option maxHeartbeats 1000000 in
theorem next_any (H:HAt w p h) (f:h.Fit) (hh:h.Heads) (hs:Spares w) (o:Nat) (ho:o<4294967296):
 Calls Tryz.prog 164 #[ptr p.g,.int .u32 o] w fun e w'=>e = .returned (h.nextV o)∧Below w.heap.size w w':=by
 have HI:=Lib.hid (is_any H f o ho)
 cases hi:h.isB o
 ·have HF:=Lib.hid (show h.nextV o = .tuple #[.int .u32 0,.int .i64 3] by simp [HM.nextV,hi])
  rw [hi] at HI
  clear hi
  unfold ptr at HI ⊢
  go_enter Tryz.func164,Tryz.ntmps164
  go_wp2_with fail
  refine HI.out.mono ?_
  rintro e w' ⟨rfl,rfl⟩
  go_wp2_with fail
  go_ret2
  exact⟨by rw [HF.out]; rfl,Below.refl _ _⟩
 ·have hd:=HM.isB_hd hh hi
  have HA:=Lib.hid (at_any p.g o ho (HM.isB_obj hi) w)
  have HH:=Lib.hid (header_any H f hs (o / 2) hd)
  have HX:=Lib.hid (show (h.hd (o / 2)).val = .agg #[.int .i64 (h.hd (o / 2)).size,.int .i64 (h.hd (o / 2)).fmt,.int .i64 (h.hd (o / 2)).spare,.int .u32 (h.hd (o / 2)).cls,.int .u32 (h.hd (o / 2)).ser] from rfl)
  have HF:=Lib.hid (show h.nextV o = .tuple #[.int .u32 (h.objM (o / 2+3+(h.hd (o / 2)).size)),.int .i64 0] by simp [HM.nextV,hi,HM.nextO])
  have hsz:=(HM.hd_fit f (o / 2)).size
  have hmx:=f.room
  have hmx2:=f.hi
  have hd1:=hd.1
  have HO:=Lib.hid (fun w' (hb:Below w.heap.size w w')=>object_any (H.below hb) f (o / 2+3+(h.hd (o / 2)).size) (by omega) (by omega))
  rw [hi] at HI
  clear hi hd hd1 hmx hmx2
  have hq:o / 2<2147483648:=by omega
  generalize o / 2=q at *
  rw [HX.out] at HH
  clear HX
  generalize h.hd q=x at *
  generalize x.size=n at *
  have HO2:=Lib.hid (fun w' (hb:Below w.heap.size w w')=>by
   have:=HO.out w' hb
   rw [show ((q+3+n:Nat):Int)=(q:Int)+3+(n:Int) from by omega] at this
   exact this)
  clear HO
  have hfld:∀ (a b c d e:Value) (w:World),(Instr.field 137 (.agg #[a,b,c,d,e]) 0).run Tryz.prog w = .ok a w:=fun a b c d e w=>by kernel_rfl
  unfold ptr at HI HA HH HO2 ⊢
  go_enter Tryz.func164,Tryz.ntmps164
  go_wp2_with fail
  refine HI.out.mono ?_
  rintro e w' ⟨rfl,rfl⟩
  go_wp2_with fail
  refine HA.out.mono ?_
  rintro e w' ⟨rfl,rfl⟩
  go_wp2_with fail
  refine HH.out.mono ?_
  rintro e w1 ⟨rfl,hb1⟩
  go_wp2_with fail
  refine (HO2.out _ hb1).mono ?_
  rintro e w2 ⟨rfl,rfl⟩
  go_wp2_with fail
  go_ret2
  exact⟨by rw [HF.out]; rfl,hb1⟩
def HM.setClassE (h:HM) (o c:Nat):Nat:=if h.isB o && h.clsB c then 0 else 3
def HM.setClassH (h:HM) (o c:Nat):HM:=if h.setClassE o c=0 then { h with words:=h.words.set (o / 2+1) c } else h
set_option maxHeartbeats 1000000 in
theorem setClass_any (H:HAt w p h) (f:h.Fit) (hh:h.Heads) (o:Nat) (ho:o<4294967296) (c:Nat) (hc:c<4294967296):
 Calls Tryz.prog 45 #[ptr p.g,.int .u32 o,.int .u32 c] w (Deeds p (h.setClassH o c) (h.setClassE o c) w):=by
 have HI:=Lib.hid (is_any H f o ho)
 have HC:=Lib.hid (class_any H f c hc)
 cases hi:h.isB o
 ·have HF:=Lib.hid (show h.setClassE o c=3∧h.setClassH o c=h by simp [HM.setClassE,HM.setClassH,hi])
  rw [hi] at HI
  clear hi
  unfold ptr at HI ⊢
  go_enter Tryz.func45,Tryz.ntmps45
  go_wp2_with fail
  refine HI.out.mono ?_
  rintro e w' ⟨rfl,rfl⟩
  go_wp2_with fail
  go_ret
  exact⟨by rw [HF.out.1]; rfl,by rw [HF.out.2]; exact H,Step.refl _ _⟩
 ·rw [hi] at HI
  cases hcl:h.clsB c
  ·have HF:=Lib.hid (show h.setClassE o c=3∧h.setClassH o c=h by simp [HM.setClassE,HM.setClassH,hi,hcl])
   rw [hcl] at HC
   clear hi hcl
   unfold ptr at HI HC ⊢
   go_enter Tryz.func45,Tryz.ntmps45
   go_wp2_with fail
   refine HI.out.mono ?_
   rintro e w' ⟨rfl,rfl⟩
   go_wp2_with fail
   refine HC.out.mono ?_
   rintro e w' ⟨rfl,rfl⟩
   go_wp2_with fail
   go_ret
   exact⟨by rw [HF.out.1]; rfl,by rw [HF.out.2]; exact H,Step.refl _ _⟩
  ·have HF:=Lib.hid (show h.setClassE o c=0∧h.setClassH o c={ h with words:=h.words.set (o / 2+1) c } by simp [HM.setClassE,HM.setClassH,hi,hcl])
   rw [hcl] at HC
   have hd:=(HM.isB_hd hh hi).1
   have HA:=Lib.hid (fun w=>at_any p.g o ho (HM.isB_obj hi) w)
   have c0:=H.c0
   have hk:o / 2+1<h.words.length:=by omega
   have cv:w.cell? ⟨p.gw,o / 2+1,none⟩=some (.int .u32 ((h.words.getD (o / 2+1) 0:Nat):Int)):=H.word hk
   have cf:w.frozen? ⟨p.gw,o / 2+1,none⟩=false:=H.2.1.frozen _
   have HS:=Lib.hid (H.setWord (o / 2+1) c)
   have hmx:=f.room
   have hmx2:=f.hi
   clear hi hcl hd
   generalize h.words.getD (o / 2+1) 0=old at *
   generalize ({ h with words:=h.words.set (o / 2+1) c }:HM)=h2 at *
   have hq:o / 2<2147483648:=by omega
   generalize o / 2=q at *
   generalize h.words.length=len at *
   have a1:IntKind.i64.wrap ((q:Int)+1)=(q:Int)+1:=IntWalk.i64_in _ (by omega)
   have a2:((q:Int)+1).toNat=q+1:=by omega
   have a3:(0:Int)≤(q:Int)+1:=by omega
   have a4:(q:Int)+1<(len:Int):=by omega
   unfold ptr at HI HC HA ⊢
   go_enter Tryz.func45,Tryz.ntmps45
   go_wp2_with fail
   refine HI.out.mono ?_
   rintro e w' ⟨rfl,rfl⟩
   go_wp2_with fail
   refine HC.out.mono ?_
   rintro e w' ⟨rfl,rfl⟩
   go_wp2_with fail
   go_region_with (first | (go_at_call 89; refine (HA.out _).mono ?_; rintro e w' ⟨rfl,rfl⟩))
   all_goals
    go_wp2_with fail
    go_ret
    exact⟨by rw [HF.out.1]; rfl,by rw [HF.out.2]; exact HS.out,((Step.refl _ _).setCell (.inl (.inr (.inl rfl))) _).drew⟩
def rootOk (i:Int):Bool:=decide (0≤i) && decide (i<64)
def HM.rootV (h:HM) (i:Int):Value:=.tuple (if rootOk i then #[.int .u32 (h.roots.getD i.toNat 0:Nat),.int .i64 0] else #[.int .u32 0,.int .i64 1])
theorem root_any (H:HAt w p h) (f:h.Fit) (i:Int):Calls Tryz.prog 23 #[ptr p.g,.int .i64 i] w fun e w'=>e = .returned (h.rootV i)∧w=w':=by
 have hm:=Lib.hid (made_any H (by have:=f.lo; omega) f.hi)
 have c2:=H.c2
 rw [f.roots] at c2
 unfold ptr at hm ⊢
 by_cases h0:i<0
 ·have HF:=Lib.hid (show h.rootV i = .tuple #[.int .u32 0,.int .i64 1] by simp [HM.rootV,rootOk]; omega)
  have hd:decide (i<0)=true:=by simpa using h0
  go_enter Tryz.func23,Tryz.ntmps23
  go_wp2_with fail
  refine hm.out.mono ?_
  rintro e w' ⟨rfl,rfl⟩
  go_wp2_with fail
  go_ret2
  exact⟨by rw [HF.out]; rfl,rfl⟩
 ·have hd:decide (i<0)=false:=by simpa using h0
  by_cases h1:64≤i
  ·have HF:=Lib.hid (show h.rootV i = .tuple #[.int .u32 0,.int .i64 1] by simp [HM.rootV,rootOk]; omega)
   have hd1:decide (64≤i)=true:=by simpa using h1
   go_enter Tryz.func23,Tryz.ntmps23
   go_wp2_with fail
   refine hm.out.mono ?_
   rintro e w' ⟨rfl,rfl⟩
   go_wp2_with fail
   go_ret2
   exact⟨by rw [HF.out]; rfl,rfl⟩
  ·have hd1:decide (64≤i)=false:=by simpa using h1
   obtain⟨k,rfl⟩:=Int.eq_ofNat_of_zero_le (by omega:0≤i)
   have HF:=Lib.hid (show h.rootV k = .tuple #[.int .u32 (h.roots.getD k 0:Nat),.int .i64 0] by
    unfold HM.rootV rootOk
    rw [if_pos (by simp; omega)]
    simp)
   have hcell:=H.root (i:=k) (by rw [f.roots]; omega)
   generalize h.roots.getD k 0=v at *
   have h1':(k:Int)<64:=by omega
   go_enter Tryz.func23,Tryz.ntmps23
   go_wp2_with fail
   refine hm.out.mono ?_
   rintro e w' ⟨rfl,rfl⟩
   go_wp2_with fail
   go_ret2
   exact⟨by rw [HF.out]; rfl,rfl⟩
def HM.setRootE (h:HM) (i:Int) (v:Nat):Nat:=if rootOk i then (if h.valB v then 0 else 3) else 1
def HM.setRootH (h:HM) (i:Int) (v:Nat):HM:=if h.setRootE i v=0 then { h with roots:=h.roots.set i.toNat v } else h
set_option maxHeartbeats 1000000 in
theorem setRoot_any (H:HAt w p h) (f:h.Fit) (i:Int) (v:Nat) (hv:v<4294967296):Calls Tryz.prog 10 #[ptr p.g,.int .i64 i,.int .u32 v] w (Deeds p (h.setRootH i v) (h.setRootE i v) w):=by
 have hm:=Lib.hid (made_any H (by have:=f.lo; omega) f.hi)
 have c2:=H.c2
 rw [f.roots] at c2
 have HVC:=Lib.hid (value_any H f v hv)
 unfold ptr at hm HVC ⊢
 by_cases h0:i<0
 ·have HF:=Lib.hid (show h.setRootE i v=1∧h.setRootH i v=h by
   have e:rootOk i=false:=by simp [rootOk]; omega
   simp [HM.setRootE,HM.setRootH,e])
  have hd:decide (i<0)=true:=by simpa using h0
  go_enter Tryz.func10,Tryz.ntmps10
  go_wp2_with fail
  refine hm.out.mono ?_
  rintro e w' ⟨rfl,rfl⟩
  go_wp2_with fail
  go_ret
  exact⟨by rw [HF.out.1]; rfl,by rw [HF.out.2]; exact H,Step.refl _ _⟩
 ·have hd:decide (i<0)=false:=by simpa using h0
  by_cases h1:64≤i
  ·have HF:=Lib.hid (show h.setRootE i v=1∧h.setRootH i v=h by
    have e:rootOk i=false:=by simp [rootOk]; omega
    simp [HM.setRootE,HM.setRootH,e])
   have hd1:decide (64≤i)=true:=by simpa using h1
   go_enter Tryz.func10,Tryz.ntmps10
   go_wp2_with fail
   refine hm.out.mono ?_
   rintro e w' ⟨rfl,rfl⟩
   go_wp2_with fail
   go_ret
   exact⟨by rw [HF.out.1]; rfl,by rw [HF.out.2]; exact H,Step.refl _ _⟩
  ·have hd1:decide (64≤i)=false:=by simpa using h1
   obtain⟨k,rfl⟩:=Int.eq_ofNat_of_zero_le (by omega:0≤i)
   have e:rootOk k=true:=by simp [rootOk]; omega
   cases hval:h.valB v
   ·have HF:=Lib.hid (show h.setRootE k v=3∧h.setRootH k v=h by simp [HM.setRootE,HM.setRootH,e,hval])
    rw [hval] at HVC
    clear hval e
    go_enter Tryz.func10,Tryz.ntmps10
    go_wp2_with fail
    refine hm.out.mono ?_
    rintro e w' ⟨rfl,rfl⟩
    go_wp2_with fail
    refine HVC.out.mono ?_
    rintro e w' ⟨rfl,rfl⟩
    go_wp2_with fail
    go_ret
    exact⟨by rw [HF.out.1]; rfl,by rw [HF.out.2]; exact H,Step.refl _ _⟩
   ·have HF:=Lib.hid (show h.setRootE k v=0∧h.setRootH k v={ h with roots:=h.roots.set k v } by simp [HM.setRootE,HM.setRootH,e,hval])
    rw [hval] at HVC
    have hcell:=H.root (i:=k) (by rw [f.roots]; omega)
    have cf:w.frozen? ⟨p.gr,k,none⟩=false:=H.2.2.2.frozen _
    have HS:=Lib.hid (H.setRoot k v)
    clear hval e
    generalize h.roots.getD k 0=old at *
    generalize ({ h with roots:=h.roots.set k v }:HM)=h2 at *
    have h1':(k:Int)<64:=by omega
    go_enter Tryz.func10,Tryz.ntmps10
    go_wp2_with fail
    refine hm.out.mono ?_
    rintro e w' ⟨rfl,rfl⟩
    go_wp2_with fail
    refine HVC.out.mono ?_
    rintro e w' ⟨rfl,rfl⟩
    go_wp2_with fail
    go_ret
    exact⟨by rw [HF.out.1]; rfl,by rw [HF.out.2]; exact HS.out,(Step.refl _ _).setCell (.inl (.inr (.inr (.inr rfl)))) _⟩
end
end
section
open Go.RowKit
def fb (h:HM) (o k:Nat):Nat:=byteOf (fw h o (k / 4)) (k%4)
section
variable {w:World} {p:HP} {h:HM} (H:HAt w p h) (f:h.Fit) (hh:h.Heads) (hs:Spares w) (o:Nat) (ho:o<4294967296) (i:Int)
include H f hh hs ho
end
end
section
open Go.RowKit
def HM.lenV (h:HM) (o:Nat):Value:=.tuple #[.int .i64 ((if h.isB o then (h.hd (o / 2)).len else 0:Nat):Int),.int .i64 ((if h.isB o then 0 else 3:Nat):Int)]
section
variable {w:World} {p:HP} {h:HM} (H:HAt w p h) (f:h.Fit) (hh:h.Heads) (hs:Spares w) (o:Nat) (ho:o<4294967296)
include H f hh hs ho
set_option maxHeartbeats 1000000 in
theorem Length_any:Calls Tryz.prog 161 #[ptr p.g,.int .u32 o] w fun e w'=>e = .returned (h.lenV o)∧Below w.heap.size w w':=by
 have HC:=Lib.hid (Header_any H f hh hs o ho)
 cases hi:h.isB o
 ·have HH:=Lib.hid (show h.headerV o = .tuple #[.agg #[.int .i64 0,.int .i64 0,.int .i64 0,.int .u32 0,.int .u32 0],.int .i64 3] by simp [HM.headerV,hi])
  have HF:=Lib.hid (show h.lenV o = .tuple #[.int .i64 0,.int .i64 3] by simp [HM.lenV,hi])
  rw [HH.out] at HC
  clear HH hi
  have HL:=Lib.hid (fun w=>length_any ⟨0,0,0,0,0⟩ ⟨by decide,by decide,by decide,by decide,by decide⟩ (fun _=>by decide) w)
  unfold ptr at HC ⊢
  unfold Hd.val at HL
  go_enter Tryz.func161,Tryz.ntmps161
  go_wp2_with fail
  refine HC.out.mono ?_
  rintro e w1 ⟨rfl,hb1⟩
  go_wp2_with fail
  refine (HL.out _).mono ?_
  rintro e w2 ⟨rfl,hb2⟩
  have hb:=below_top (w:=w) (hb1.alloc hb1.size _) hb2
  clear hb2
  go_wp2_with fail
  go_ret2
  exact⟨by rw [HF.out]; rfl,hb⟩
 ·have hd:=HM.isB_hd hh hi
  have HH:=Lib.hid (show h.headerV o = .tuple #[(h.hd (o / 2)).val,.int .i64 0] by simp [HM.headerV,hi])
  have HF:=Lib.hid (show h.lenV o = .tuple #[.int .i64 ((h.hd (o / 2)).len:Nat),.int .i64 0] by simp [HM.lenV,hi])
  have HL:=Lib.hid (fun w=>length_any (h.hd (o / 2)) (HM.hd_fit f _) (fun e=>hd.sane e) w)
  rw [HH.out] at HC
  clear HH hi hd
  have HX:=Lib.hid (show (h.hd (o / 2)).val = .agg #[.int .i64 (h.hd (o / 2)).size,.int .i64 (h.hd (o / 2)).fmt,.int .i64 (h.hd (o / 2)).spare,.int .u32 (h.hd (o / 2)).cls,.int .u32 (h.hd (o / 2)).ser] from rfl)
  rw [HX.out] at HC HL
  generalize h.hd (o / 2)=x at *
  unfold ptr at HC ⊢
  go_enter Tryz.func161,Tryz.ntmps161
  go_wp2_with fail
  refine HC.out.mono ?_
  rintro e w1 ⟨rfl,hb1⟩
  go_wp2_with fail
  refine (HL.out _).mono ?_
  rintro e w2 ⟨rfl,hb2⟩
  have hb:=below_top (w:=w) (hb1.alloc hb1.size _) hb2
  clear hb2
  go_wp2_with fail
  go_ret2
  exact⟨by rw [HF.out]; rfl,hb⟩
end
end
section
open Go.RowKit
def badFn (gb:Nat):Value:=.func (.func 166) #[] #[.pointer (some ⟨gb,0,none⟩)]
theorem bad_any {w:World} {p:HP} {h:HM} (H:HAt w p h) (f:h.Fit) (gb:Nat) (hb:w.cell? ⟨gb,0,none⟩=some (.pointer (some ⟨p.g,0,none⟩))) (o:Nat) (ho:o<4294967296):
 Calls Tryz.prog 166 #[.int .u32 o,.pointer (some ⟨gb,0,none⟩)] w fun e w'=>e = .returned (.bool (!h.valB o))∧w=w':=by
 have HV:=Lib.hid (value_any H f o ho)
 clear H f
 unfold ptr at HV
 generalize h.valB o=b at *
 go_enter Tryz.func166,Tryz.ntmps166
 go_wp2_with fail
 refine HV.out.mono ?_
 rintro e w' ⟨rfl,rfl⟩
 go_wp2_with fail
 go_ret
 exact⟨rfl,rfl⟩
def IdxFP (h:HM) (xs:List Nat) (w:World) (e:Ending) (w':World):Prop:=∃ j:Int,e = .returned (.int .i64 j)∧(decide (0≤j)=xs.any fun o=> !h.valB o)∧ -1≤j∧j≤9223372036854775807∧w=w'
theorem any_take {q:Nat→Bool} {xs:List Nat} {k:Nat} (hk:k<xs.length) (h1:(xs.take k).any q=false) (h2:q (xs.getD k 0)=false):(xs.take (k+1)).any q=false:=by
 rw [List.take_add_one,List.getElem?_eq_getElem hk,List.any_append,h1]
 rw [List.getD_eq_getElem?_getD,List.getElem?_eq_getElem hk] at h2
 simpa using h2
theorem any_at {q:Nat→Bool} {xs:List Nat} {k:Nat} (hk:k<xs.length) (h2:q (xs.getD k 0)=true):xs.any q=true:=by
 rw [List.any_eq_true]
 rw [List.getD_eq_getElem?_getD,List.getElem?_eq_getElem hk] at h2
 exact⟨xs[k],List.getElem_mem hk,h2⟩
set_option maxHeartbeats 1000000 in
theorem indexFunc_any {w:World} {p:HP} {h:HM} (H:HAt w p h) (f:h.Fit) (gb:Nat) (hb:w.cell? ⟨gb,0,none⟩=some (.pointer (some ⟨p.g,0,none⟩))) (A:Option Addr) (n c B:Nat) (xs:List Nat) (hn:n≤9223372036854775807)
 (hr:Reads w B 1 A n (u32s xs)) (h32:∀ x∈xs,x<4294967296):
 Calls Tryz.prog 177 #[.slice A n c,badFn gb] w (IdxFP h xs w):=by
 have hl:xs.length=n:=by have:=hr.1; rw [u32s_len] at this; omega
 have HL:=Lib.hid hl; have HR:=Lib.hid hr; have HX:=Lib.hid h32; have HH:=Lib.hid H; have HF:=Lib.hid f; have HB:=Lib.hid hb
 clear hl hr h32 H f hb
 unfold badFn
 go_enter Tryz.func177,Tryz.ntmps177
 go_wp2_with fail
 go_loop [8] (fun i=>∃ k:Nat,k≤n∧i = .int .i64 k∧(xs.take k).any (fun o=> !h.valB o)=false) (fun i=>n-(intOf i).toNat)
 case atStart=>exact⟨0,by omega,rfl,by simp⟩
 case round=>
  obtain⟨k,hk,rfl,hno⟩:=hrel
  have HNO:=Lib.hid hno; clear hno
  by_cases hlt:k<n
  ·obtain⟨ad,u0,rfl,_,hx,hcell⟩:=HR.out.at_ hlt
   rw [u32s_get (by rw [HL.out]; exact hlt)] at hx
   injection hx with hx
   subst hx
   have ho:xs.getD k 0<4294967296:=by
    rw [List.getD_eq_getElem?_getD,List.getElem?_eq_getElem (by rw [HL.out]; exact hlt)]
    exact HX.out _ (List.getElem_mem _)
   have HC:=Lib.hid (bad_any HH.out HF.out gb HB.out (xs.getD k 0) ho)
   cases hv:h.valB (xs.getD k 0)
   ·have HA:=Lib.hid (any_at (q:=fun o=> !h.valB o) (by rw [HL.out]; exact hlt) (by simp only [hv]; rfl))
    rw [hv] at HC
    clear hv
    generalize xs.getD k 0=y at *
    go_wp2_with fail
    refine HC.out.mono ?_
    rintro e w' ⟨rfl,rfl⟩
    go_wp2_with fail
    go_ret
    exact⟨k,rfl,by rw [HA.out]; simp,by omega,by omega,rfl⟩
   ·have HA:=Lib.hid (any_take (q:=fun o=> !h.valB o) (by rw [HL.out]; exact hlt) HNO.out (by simp only [hv]; rfl))
    rw [hv] at HC
    clear hv
    generalize xs.getD k 0=y at *
    go_wp2_with fail
    refine HC.out.mono ?_
    rintro e w' ⟨rfl,rfl⟩
    go_wp2_with fail
    go_round
    case rel=>exact⟨k+1,by omega,by go_num,HA.out⟩
    case measure=>simp [intOf]; omega
  ·obtain rfl:k=n:=by omega
   have hall:=HNO.out
   rw [List.take_of_length_le (by rw [HL.out]; omega)] at hall
   have HA:=Lib.hid hall; clear hall
   go_wp2_with fail
   go_ret
   exact⟨-1,rfl,by rw [HA.out]; simp,by omega,by omega,rfl⟩
theorem containsFunc_any {w:World} {p:HP} {h:HM} (H:HAt w p h) (f:h.Fit) (gb:Nat) (hb:w.cell? ⟨gb,0,none⟩=some (.pointer (some ⟨p.g,0,none⟩))) (A:Option Addr) (n c B:Nat) (xs:List Nat) (hn:n≤9223372036854775807)
 (hr:Reads w B 1 A n (u32s xs)) (h32:∀ x∈xs,x<4294967296):
 Calls Tryz.prog 165 #[.slice A n c,badFn gb] w fun e w'=>e = .returned (.bool (xs.any fun o=> !h.valB o))∧w=w':=by
 have HC:=Lib.hid (indexFunc_any H f gb hb A n c B xs hn hr h32)
 clear H f hb hr h32
 unfold badFn at HC ⊢
 go_enter Tryz.func165,Tryz.ntmps165
 go_wp2_with fail
 refine HC.out.mono ?_
 rintro e w' ⟨j,rfl,hj,hlo,hhi,rfl⟩
 have HJ:=Lib.hid hj; clear hj
 go_wp2_with fail
 go_ret
 exact⟨by rw [← HJ.out]; rfl,rfl⟩
end
end Go.Proofs.YtdoahpflemgaeaaGreatDoor
