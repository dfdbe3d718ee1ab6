import Derived.Test.YtdoahpflemgaeaaGreatDoorJOop
import Derived.Test.YtdoahpflemgaeaaGreatDoorJMem
import Derived.Lib.LaidTab
import Derived.Deep.RegionHeld3
import Derived.Deep.RegionWith
set_option linter.unusedVariables false
set_option linter.unusedSectionVars false
namespace Go.Proofs.YtdoahpflemgaeaaGreatDoor
section
open Go.RowKit
structure Hd where
 size:Nat
 fmt:Nat
 spare:Nat
 cls:Nat
 ser:Nat
def Hd.val (x:Hd):Value:=.agg #[.int .i64 x.size,.int .i64 x.fmt,.int .i64 x.spare,.int .u32 x.cls,.int .u32 x.ser]
structure Hd.Fit (x:Hd):Prop where
 size:x.size<16777216
 fmt:x.fmt<8
 spare:x.spare<4
 cls:x.cls<4294967296
 ser:x.ser<4294967296
def Hd.may (x:Hd):Bool:=decide (x.size≤65535) && decide (1≤x.fmt) && decide (x.fmt≤4) && (decide (x.spare=0) || decide (x.fmt=2) && decide (0<x.size))
def Spares (w:World):Prop:=∀ i,i<5→w.cell? ⟨0,i,none⟩=some (.bool (i == 2))
theorem Spares.below {w w':World} (h:Spares w) (hb:Below w.heap.size w w'):Spares w':=fun i hi=>
 (hb.cell (World.block_lt_of_cell? _ _ (h i hi))).trans (h i hi)
set_option maxHeartbeats 2000000 in
theorem may_any (x:Hd) (f:x.Fit) (w:World) (hs:Spares w):
 Calls Tryz.prog 154 #[x.val] w fun e w'=>e = .returned (.bool x.may)∧Below w.heap.size w w':=by
 have c0:=hs 0 (by omega)
 have c1:=hs 1 (by omega)
 have c2:=hs 2 (by omega)
 have c3:=hs 3 (by omega)
 have c4:=hs 4 (by omega)
 have hg:0<w.heap.size:=World.block_lt_of_cell? _ _ c0
 have hne:w.heap.size≠0:=by omega
 clear c0 c1 c2 c3 c4
 obtain⟨n,t,s,c,r⟩:=x
 obtain⟨f1,f2,f3,f4,f5⟩:=f
 simp only at f1 f2 f3 f4 f5
 unfold Hd.val
 by_cases h1:65535<n
 ·have HF:=Lib.hid (show Hd.may ⟨n,t,s,c,r⟩=false by simp [Hd.may]; omega)
  go_enter Tryz.func154,Tryz.ntmps154
  go_wp2_with fail
  go_ret
  exact⟨by rw [HF.out]; rfl,(Below.refl _ _).alloc (Nat.le_refl _) _⟩
 by_cases h2:t≤0
 ·have HF:=Lib.hid (show Hd.may ⟨n,t,s,c,r⟩=false by simp [Hd.may]; omega)
  go_enter Tryz.func154,Tryz.ntmps154
  go_wp2_with fail
  go_ret
  exact⟨by rw [HF.out]; rfl,(Below.refl _ _).alloc (Nat.le_refl _) _⟩
 by_cases h3:5≤t
 ·have HF:=Lib.hid (show Hd.may ⟨n,t,s,c,r⟩=false by simp [Hd.may]; omega)
  go_enter Tryz.func154,Tryz.ntmps154
  go_wp2_with fail
  go_ret
  exact⟨by rw [HF.out]; rfl,(Below.refl _ _).alloc (Nat.le_refl _) _⟩
 by_cases h4:s=0
 ·subst h4
  have HF:=Lib.hid (show Hd.may ⟨n,t,0,c,r⟩=true by simp [Hd.may]; omega)
  go_enter Tryz.func154,Tryz.ntmps154
  go_wp2_with fail
  go_ret
  exact⟨by rw [HF.out]; rfl,(Below.refl _ _).alloc (Nat.le_refl _) _⟩
 have h4':((s:Int) == 0)=false:=by simpa using h4
 have hcell:w.cell? ⟨0,t,none⟩=some (.bool (t == 2)):=hs t (by omega)
 have hlt:(t:Int)<5:=by omega
 by_cases h5:t=2
 ·subst h5
  by_cases h6:n=0
  ·subst h6
   have HF:=Lib.hid (show Hd.may ⟨0,2,s,c,r⟩=false by simp [Hd.may,h4])
   clear h4
   go_enter Tryz.func154,Tryz.ntmps154
   go_wp2_with fail
   go_ret
   exact⟨by rw [HF.out]; rfl,(Below.refl _ _).alloc (Nat.le_refl _) _⟩
  ·have HF:=Lib.hid (show Hd.may ⟨n,2,s,c,r⟩=true by simp [Hd.may]; omega)
   have h7:(0:Int)<n:=by omega
   clear h4 h6
   go_enter Tryz.func154,Tryz.ntmps154
   go_wp2_with fail
   go_ret
   exact⟨by rw [HF.out]; simp; omega,(Below.refl _ _).alloc (Nat.le_refl _) _⟩
 ·have HF:=Lib.hid (show Hd.may ⟨n,t,s,c,r⟩=false by simp [Hd.may]; omega)
  rw [show (t == 2)=false by simpa using h5] at hcell
  clear h4 h5
  go_enter Tryz.func154,Tryz.ntmps154
  go_wp2_with fail
  go_ret
  exact⟨by rw [HF.out]; rfl,(Below.refl _ _).alloc (Nat.le_refl _) _⟩
end
section
open Go.RowKit
theorem u32_orj (i a b:Nat) (ha:a<2 ^ i) (hb:b*2 ^ i<4294967296) (ha2:a<4294967296):bits .or .u32 (a:Int) ((b*2 ^ i:Nat):Int)=((a+b*2 ^ i:Nat):Int):=by
 rw [u32_or_nat _ _ ha2 hb,Nat.or_comm,nat_join i _ _ (by simp) ha,Nat.add_comm]
theorem u32_or24 (a b:Nat) (ha:a<16777216) (hb:b<8):bits .or .u32 (a:Int) ((b:Int)*16777216)=((a+b*16777216:Nat):Int):=by
 have:=u32_orj 24 a b (by simpa using ha) (by omega) (by omega)
 simpa using this
theorem u32_or27 (a b:Nat) (ha:a<134217728) (hb:b<4):bits .or .u32 (a:Int) ((b:Int)*134217728)=((a+b*134217728:Nat):Int):=by
 have:=u32_orj 27 a b (by simpa using ha) (by omega) (by omega)
 simpa using this
def Hd.w0 (x:Hd):Nat:=x.size+x.fmt*16777216+x.spare*134217728
def Hd.packed (x:Hd):Value:=.agg #[.int .u32 x.w0,.int .u32 x.cls,.int .u32 x.ser]
set_option maxHeartbeats 1000000 in
theorem pack_any (x:Hd) (f:x.Fit) (w:World):
 Calls Tryz.prog 155 #[x.val] w fun e w'=>e = .returned x.packed∧Below w.heap.size w w':=by
 obtain⟨n,t,s,c,r⟩:=x
 obtain⟨f1,f2,f3,f4,f5⟩:=f
 simp only at f1 f2 f3 f4 f5
 have HF:=Lib.hid (show Hd.packed ⟨n,t,s,c,r⟩ = .agg #[.int .u32 ((n+t*16777216+s*134217728:Nat):Int),.int .u32 c,.int .u32 r] from rfl)
 have e1:=u32_or24 n t f1 f2
 have e2:=u32_or27 (n+t*16777216) s (by omega) f3
 generalize n+t*16777216+s*134217728=v at *
 generalize n+t*16777216=u at *
 unfold Hd.val
 go_enter Tryz.func155,Tryz.ntmps155
 go_wp2_with fail
 refine bodyPost_ret (v:=.agg #[.int .u32 v,.int .u32 c,.int .u32 r]) (by simp [results,Tryz.results155,go_sem]) rfl ⟨by rw [HF.out],?_⟩
 exact ((Below.refl _ _).alloc (Nat.le_refl _) _).alloc (by simp) _
set_option maxHeartbeats 1000000 in
theorem Pack_any (x:Hd) (f:x.Fit) (hm:x.may=true) (w:World) (hs:Spares w):
 Calls Tryz.prog 129 #[x.val] w fun e w'=>e = .returned (.tuple #[x.packed,.int .i64 0])∧Below w.heap.size w w':=by
 have hv:x.val = .agg #[.int .i64 x.size,.int .i64 x.fmt,.int .i64 x.spare,.int .u32 x.cls,.int .u32 x.ser]:=rfl
 rw [hv]
 go_enter Tryz.func129,Tryz.ntmps129
 go_wp2_with fail
 rw [← hv]
 refine (may_any x f _ (hs.below (((Below.refl _ _).alloc (Nat.le_refl _) _).alloc (by simp) _))).mono ?_
 rintro e w1 ⟨rfl,hb1⟩
 rw [hm]
 have hb:Below w.heap.size w w1:=(((Below.refl _ _).alloc (Nat.le_refl _) _).alloc (by simp) _).trans (hb1.mono (by simp; omega))
 have B1:=Blk.below (Blk.alloc (Blk.new w _ _) _) hb1 (by simp; omega)
 have B2:=Blk.below (Blk.new (w.alloc _) _ _) hb1 (by simp)
 rw [World.size_alloc] at B2
 have hz:w.heap.size+1<w1.heap.size:=by have:=hb1.size; simp at this; omega
 clear hb1
 obtain⟨c0,c1,c2,c3,c4⟩:=B1.cells5
 have z1:=B1.fz
 go_wp2_with fail
 rw [← hv]
 refine (pack_any x f _).mono ?_
 rintro e w2 ⟨rfl,hb2⟩
 rw [show x.packed = .agg #[.int .u32 x.w0,.int .u32 x.cls,.int .u32 x.ser] from rfl,hv]
 have B2':=B2.below hb2 B2.lt
 obtain⟨d0,d1,d2⟩:=B2'.cells3
 have z2:=B2'.fz
 have hz2:=B2'.lt
 go_wp2_with fail
 refine bodyPost_ret (v:=.tuple #[.agg #[.int .u32 x.w0,.int .u32 x.cls,.int .u32 x.ser],.int .i64 0]) (by simp [results,Tryz.results129,go_sem,d0,d1,d2]) rfl ⟨rfl,?_⟩
 exact (((below_top hb hb2).setCell (by simp) _).setCell (by simp) _).setCell (by simp) _
end
section
open Go.RowKit
def unhd (a b c:Nat):Hd:=⟨a%16777216,a / 16777216%8,a / 134217728%4,b,c⟩
def okhd (a b c:Nat):Bool:=(unhd a b c).may && decide (a<536870912)
theorem unhd_fit (a b c:Nat) (hb:b<4294967296) (hc:c<4294967296):(unhd a b c).Fit:=
 ⟨Nat.mod_lt _ (by omega),Nat.mod_lt _ (by omega),Nat.mod_lt _ (by omega),hb,hc⟩
theorem unhd_w0 (a b c:Nat):(unhd a b c).w0=a%536870912:=by
 unfold Hd.w0 unhd
 simp only
 omega
theorem u32_and_mask (k m v:Nat) (hm:m=2 ^ k-1) (hk:k≤32) (h:v<4294967296):bits .and .u32 (v:Int) (m:Int)=((v%2 ^ k:Nat):Int):=by
 have h2:(2:Nat) ^ k≤2 ^ 32:=Nat.pow_le_pow_right (by omega) hk
 rw [u32_and_nat _ _ h (by omega),hm,Nat.and_two_pow_sub_one_eq_mod]
theorem u32_and24 (v:Nat) (h:v<4294967296):bits .and .u32 (v:Int) 16777215=((v%16777216:Nat):Int):=u32_and_mask 24 16777215 v (by omega) (by omega) h
theorem u32_and3 (v:Nat) (h:v<4294967296):bits .and .u32 (v:Int) 7=((v%8:Nat):Int):=u32_and_mask 3 7 v (by omega) (by omega) h
theorem u32_and2 (v:Nat) (h:v<4294967296):bits .and .u32 (v:Int) 3=((v%4:Nat):Int):=u32_and_mask 2 3 v (by omega) (by omega) h
set_option maxHeartbeats 1000000 in
theorem unpack_any (a b c:Nat) (ha:a<4294967296) (hb:b<4294967296) (hc:c<4294967296) (w:World) (hs:Spares w) (hok:okhd a b c=true):
 Calls Tryz.prog 162 #[.agg #[.int .u32 a,.int .u32 b,.int .u32 c]] w fun e w'=>e = .returned (.tuple #[(unhd a b c).val,.int .i64 0])∧Below w.heap.size w w':=by
 have e1:=u32_and24 a ha
 have e2:=u32_and3 (a / 16777216) (by omega)
 rw [show ((a / 16777216:Nat):Int)=(a:Int) / 16777216 from by omega] at e2
 have e3:=u32_and2 (a / 134217728) (by omega)
 rw [show ((a / 134217728:Nat):Int)=(a:Int) / 134217728 from by omega] at e3
 have hf:=unhd_fit a b c hb hc
 have hx:(unhd a b c).val = .agg #[.int .i64 (a%16777216:Nat),.int .i64 (a / 16777216%8:Nat),.int .i64 (a / 134217728%4:Nat),.int .u32 b,.int .u32 c]:=rfl
 have hmay:(unhd a b c).may=true:=by unfold okhd at hok; simp only [Bool.and_eq_true] at hok; exact hok.1
 have hlt:a<536870912:=by unfold okhd at hok; simp only [Bool.and_eq_true,decide_eq_true_eq] at hok; exact hok.2
 have hp:(unhd a b c).packed = .agg #[.int .u32 a,.int .u32 b,.int .u32 c]:=by
  unfold Hd.packed; rw [unhd_w0,Nat.mod_eq_of_lt hlt]; rfl
 have HF:=Lib.hid hf; clear hf
 have HX:=Lib.hid hx; clear hx
 have HM1:=Lib.hid hmay; clear hmay
 have HP':=Lib.hid hp; clear hp
 have HS:=Lib.hid hs; clear hs
 clear hok
 have g1:a%16777216<16777216:=Nat.mod_lt _ (by omega)
 have g2:a / 16777216%8<8:=Nat.mod_lt _ (by omega)
 have g3:a / 134217728%4<4:=Nat.mod_lt _ (by omega)
 generalize a%16777216=n at *
 generalize a / 16777216%8=t at *
 generalize a / 134217728%4=s at *
 generalize unhd a b c=x at *
 go_enter Tryz.func162,Tryz.ntmps162
 go_wp2_with fail
 generalize hW:((w.alloc _).alloc _).alloc _=W
 have hbW:Below w.heap.size w W:=by rw [← hW]; exact (((Below.refl _ _).alloc (Nat.le_refl _) _).alloc (by simp) _).alloc (by simp; omega) _
 have B0:Blk W w.heap.size 170 #[.int .u32 a,.int .u32 b,.int .u32 c]:=by rw [← hW]; exact (((Blk.new _ _ _).alloc _).alloc _)
 have B1:Blk W (w.heap.size+1) 137 #[.int .i64 0,.int .i64 0,.int .i64 0,.int .u32 0,.int .u32 0]:=by rw [← hW]; have:=((Blk.new (w.alloc (.cells #[.int .u32 a,.int .u32 b,.int .u32 c] 170)) 137 #[.int .i64 0,.int .i64 0,.int .i64 0,.int .u32 0,.int .u32 0]).alloc (.cells #[.int .i64 n,.int .i64 t,.int .i64 s,.int .u32 b,.int .u32 c] 137)); rw [World.size_alloc] at this; exact this
 have B2:Blk W (w.heap.size+1+1) 137 #[.int .i64 n,.int .i64 t,.int .i64 s,.int .u32 b,.int .u32 c]:=by
  rw [← hW]
  have:=Blk.new ((w.alloc (.cells #[.int .u32 a,.int .u32 b,.int .u32 c] 170)).alloc (.cells #[.int .i64 0,.int .i64 0,.int .i64 0,.int .u32 0,.int .u32 0] 137)) 137 #[.int .i64 n,.int .i64 t,.int .i64 s,.int .u32 b,.int .u32 c]
  rw [World.size_alloc,World.size_alloc] at this
  exact this
 clear hW
 have MC:=Lib.hid (show ∀ W',Below W.heap.size W W'→Calls Tryz.prog 154 #[.agg #[.int .i64 n,.int .i64 t,.int .i64 s,.int .u32 b,.int .u32 c]] W' fun e w'=>e = .returned (.bool true)∧Below W.heap.size W w' from fun W' h=>by
  rw [← HX.out,← HM1.out]
  exact (may_any x HF.out W' (HS.out.below (below_top hbW h))).mono fun _ _ ⟨h1,h2⟩=>⟨h1,below_top h h2⟩)
 have PC:=Lib.hid (show ∀ W',Below W.heap.size W W'→Calls Tryz.prog 155 #[.agg #[.int .i64 n,.int .i64 t,.int .i64 s,.int .u32 b,.int .u32 c]] W' fun e w'=>e = .returned (.agg #[.int .u32 a,.int .u32 b,.int .u32 c])∧Below W.heap.size W w' from fun W' h=>by
  rw [← HX.out,← HP'.out]
  exact (pack_any x HF.out W').mono fun _ _ ⟨h1,h2⟩=>⟨h1,below_top h h2⟩)
 have KC:=Lib.hid (show ∀ w',Below W.heap.size W w'→w'.cell? ⟨w.heap.size,0,none⟩=some (.int .u32 a)∧w'.cell? ⟨w.heap.size,1,none⟩=some (.int .u32 b)∧w'.cell? ⟨w.heap.size,2,none⟩=some (.int .u32 c)∧
  w'.cell? ⟨w.heap.size+1+1,0,none⟩=some (.int .i64 n)∧w'.cell? ⟨w.heap.size+1+1,1,none⟩=some (.int .i64 t)∧w'.cell? ⟨w.heap.size+1+1,2,none⟩=some (.int .i64 s)∧w'.cell? ⟨w.heap.size+1+1,3,none⟩=some (.int .u32 b)∧w'.cell? ⟨w.heap.size+1+1,4,none⟩=some (.int .u32 c) from fun w' h=>by
  obtain⟨a0,a1,a2⟩:=(B0.below h B0.lt).cells3
  exact⟨a0,a1,a2,(B2.below h B2.lt).cells5⟩)
 have hb0:=Below.refl W.heap.size W
 have hq:∀ w,(binOp .neq 170 (.agg #[.int .u32 a,.int .u32 b,.int .u32 c]) (.agg #[.int .u32 a,.int .u32 b,.int .u32 c])).run Tryz.prog w = .ok (.bool false) w:=fun w=>by
  rw [run_neq_arr3]; simp
 go_region_held3 (fun w'=>w'.cell? ⟨w.heap.size,0,none⟩=some (.int .u32 a)∧w'.cell? ⟨w.heap.size,1,none⟩=some (.int .u32 b)∧w'.cell? ⟨w.heap.size,2,none⟩=some (.int .u32 c)∧
  w'.cell? ⟨w.heap.size+1+1,0,none⟩=some (.int .i64 n)∧w'.cell? ⟨w.heap.size+1+1,1,none⟩=some (.int .i64 t)∧w'.cell? ⟨w.heap.size+1+1,2,none⟩=some (.int .i64 s)∧w'.cell? ⟨w.heap.size+1+1,3,none⟩=some (.int .u32 b)∧w'.cell? ⟨w.heap.size+1+1,4,none⟩=some (.int .u32 c))
  (first | exact KC.out _ (by assumption) | exact KC.out _ (Below.drew (by assumption)))
  (first
    | (go_at_call 154; refine (MC.out _ (by first | assumption | exact Below.drew (by assumption))).mono ?_; rintro e w1 ⟨rfl,hb1⟩)
    | (go_at_call 155; refine (PC.out _ (by first | assumption | exact Below.drew (by assumption))).mono ?_; rintro e w2 ⟨rfl,hb2⟩))
 obtain⟨a0,a1,a2,a3,a4⟩:=(B2.below hb2 B2.lt).cells5
 have B1':=B1.below hb2 B1.lt
 obtain⟨d0,d1,d2,d3,d4⟩:=B1'.cells5
 have z1:=B1'.fz
 have hz1:=B1'.lt
 clear hq hb0
 go_wp2_with fail
 refine bodyPost_ret (v:=.tuple #[.agg #[.int .i64 n,.int .i64 t,.int .i64 s,.int .u32 b,.int .u32 c],.int .i64 0]) (by simp [results,Tryz.results162,go_sem,d0,d1,d2,d3,d4]) rfl ⟨by rw [HX.out],?_⟩
 exact (((((below_top hbW hb2).setCell (by simp) _).setCell (by simp) _).setCell (by simp) _).setCell (by simp) _).setCell (by simp) _
set_option maxHeartbeats 1000000 in
theorem unpack_bad (a b c:Nat) (ha:a<4294967296) (hb:b<4294967296) (hc:c<4294967296) (w:World) (hs:Spares w) (hok:okhd a b c=false):
 Calls Tryz.prog 162 #[.agg #[.int .u32 a,.int .u32 b,.int .u32 c]] w fun e w'=>e = .returned (.tuple #[.agg #[.int .i64 0,.int .i64 0,.int .i64 0,.int .u32 0,.int .u32 0],.int .i64 10])∧Below w.heap.size w w':=by
 have e1:=u32_and24 a ha
 have e2:=u32_and3 (a / 16777216) (by omega)
 rw [show ((a / 16777216:Nat):Int)=(a:Int) / 16777216 from by omega] at e2
 have e3:=u32_and2 (a / 134217728) (by omega)
 rw [show ((a / 134217728:Nat):Int)=(a:Int) / 134217728 from by omega] at e3
 have hf:=unhd_fit a b c hb hc
 have hx:(unhd a b c).val = .agg #[.int .i64 (a%16777216:Nat),.int .i64 (a / 16777216%8:Nat),.int .i64 (a / 134217728%4:Nat),.int .u32 b,.int .u32 c]:=rfl
 have hp:(unhd a b c).packed = .agg #[.int .u32 (a%536870912:Nat),.int .u32 b,.int .u32 c]:=by
  unfold Hd.packed; rw [unhd_w0]; rfl
 have hlt:(unhd a b c).may=true→((a%536870912:Nat):Int)≠(a:Int):=by
  intro hm; unfold okhd at hok; rw [hm] at hok; simp at hok; omega
 have HF:=Lib.hid hf; clear hf
 have HX:=Lib.hid hx; clear hx
 have HLT:=Lib.hid hlt; clear hlt
 have HP':=Lib.hid hp; clear hp
 have HS:=Lib.hid hs; clear hs
 clear hok
 have g1:a%16777216<16777216:=Nat.mod_lt _ (by omega)
 have g2:a / 16777216%8<8:=Nat.mod_lt _ (by omega)
 have g3:a / 134217728%4<4:=Nat.mod_lt _ (by omega)
 generalize a%16777216=n at *
 generalize a / 16777216%8=t at *
 generalize a / 134217728%4=s at *
 generalize a%536870912=v at *
 generalize unhd a b c=x at *
 go_enter Tryz.func162,Tryz.ntmps162
 go_wp2_with fail
 generalize hW:((w.alloc _).alloc _).alloc _=W
 have hbW:Below w.heap.size w W:=by rw [← hW]; exact (((Below.refl _ _).alloc (Nat.le_refl _) _).alloc (by simp) _).alloc (by simp; omega) _
 have B0:Blk W w.heap.size 170 #[.int .u32 a,.int .u32 b,.int .u32 c]:=by rw [← hW]; exact (((Blk.new _ _ _).alloc _).alloc _)
 have B1:Blk W (w.heap.size+1) 137 #[.int .i64 0,.int .i64 0,.int .i64 0,.int .u32 0,.int .u32 0]:=by rw [← hW]; have:=((Blk.new (w.alloc (.cells #[.int .u32 a,.int .u32 b,.int .u32 c] 170)) 137 #[.int .i64 0,.int .i64 0,.int .i64 0,.int .u32 0,.int .u32 0]).alloc (.cells #[.int .i64 n,.int .i64 t,.int .i64 s,.int .u32 b,.int .u32 c] 137)); rw [World.size_alloc] at this; exact this
 have B2:Blk W (w.heap.size+1+1) 137 #[.int .i64 n,.int .i64 t,.int .i64 s,.int .u32 b,.int .u32 c]:=by
  rw [← hW]
  have:=Blk.new ((w.alloc (.cells #[.int .u32 a,.int .u32 b,.int .u32 c] 170)).alloc (.cells #[.int .i64 0,.int .i64 0,.int .i64 0,.int .u32 0,.int .u32 0] 137)) 137 #[.int .i64 n,.int .i64 t,.int .i64 s,.int .u32 b,.int .u32 c]
  rw [World.size_alloc,World.size_alloc] at this
  exact this
 clear hW
 have MC:=Lib.hid (show ∀ W',Below W.heap.size W W'→Calls Tryz.prog 154 #[.agg #[.int .i64 n,.int .i64 t,.int .i64 s,.int .u32 b,.int .u32 c]] W' fun e w'=>e = .returned (.bool x.may)∧Below W.heap.size W w' from fun W' h=>by
  rw [← HX.out]
  exact (may_any x HF.out W' (HS.out.below (below_top hbW h))).mono fun _ _ ⟨h1,h2⟩=>⟨h1,below_top h h2⟩)
 have PC:=Lib.hid (show ∀ W',Below W.heap.size W W'→Calls Tryz.prog 155 #[.agg #[.int .i64 n,.int .i64 t,.int .i64 s,.int .u32 b,.int .u32 c]] W' fun e w'=>e = .returned (.agg #[.int .u32 v,.int .u32 b,.int .u32 c])∧Below W.heap.size W w' from fun W' h=>by
  rw [← HX.out,← HP'.out]
  exact (pack_any x HF.out W').mono fun _ _ ⟨h1,h2⟩=>⟨h1,below_top h h2⟩)
 have KC:=Lib.hid (show ∀ w',Below W.heap.size W w'→w'.cell? ⟨w.heap.size,0,none⟩=some (.int .u32 a)∧w'.cell? ⟨w.heap.size,1,none⟩=some (.int .u32 b)∧w'.cell? ⟨w.heap.size,2,none⟩=some (.int .u32 c)∧
  w'.cell? ⟨w.heap.size+1+1,0,none⟩=some (.int .i64 n)∧w'.cell? ⟨w.heap.size+1+1,1,none⟩=some (.int .i64 t)∧w'.cell? ⟨w.heap.size+1+1,2,none⟩=some (.int .i64 s)∧w'.cell? ⟨w.heap.size+1+1,3,none⟩=some (.int .u32 b)∧w'.cell? ⟨w.heap.size+1+1,4,none⟩=some (.int .u32 c) from fun w' h=>by
  obtain⟨a0,a1,a2⟩:=(B0.below h B0.lt).cells3
  exact⟨a0,a1,a2,(B2.below h B2.lt).cells5⟩)
 have hb0:=Below.refl W.heap.size W
 cases hmay:x.may
 ·rw [hmay] at MC
  clear hmay HLT
  obtain⟨a0,a1,a2,a3,a4,a5,a6,a7⟩:=KC.out W hb0
  go_region_with (first
   | (go_at_call 154; refine (MC.out _ (by first | assumption | exact Below.drew (by assumption))).mono ?_; rintro e w1 ⟨rfl,hb1⟩))
  all_goals
   have B1':=B1.below hb1 B1.lt
   obtain⟨d0,d1,d2,d3,d4⟩:=B1'.cells5
   have z1:=B1'.fz
   have hz1:=B1'.lt
   clear hb0
   go_wp2_with fail
   refine bodyPost_ret (v:=.tuple #[.agg #[.int .i64 0,.int .i64 0,.int .i64 0,.int .u32 0,.int .u32 0],.int .i64 10]) (by simp [results,Tryz.results162,go_sem,d0,d1,d2,d3,d4]) rfl ⟨rfl,?_⟩
   exact (((((below_top hbW hb1).setCell (by simp) _).setCell (by simp) _).setCell (by simp) _).setCell (by simp) _).setCell (by simp) _
 ·rw [hmay] at MC
  have hne:=HLT.out hmay
  clear hmay HLT
  have hq:∀ w,(binOp .neq 170 (.agg #[.int .u32 v,.int .u32 b,.int .u32 c]) (.agg #[.int .u32 a,.int .u32 b,.int .u32 c])).run Tryz.prog w = .ok (.bool true) w:=fun w=>by
   rw [run_neq_arr3,show ((v:Int) == (a:Int))=false from beq_eq_false_iff_ne.2 hne]; simp
  clear hne
  go_region_held3 (fun w'=>w'.cell? ⟨w.heap.size,0,none⟩=some (.int .u32 a)∧w'.cell? ⟨w.heap.size,1,none⟩=some (.int .u32 b)∧w'.cell? ⟨w.heap.size,2,none⟩=some (.int .u32 c)∧
   w'.cell? ⟨w.heap.size+1+1,0,none⟩=some (.int .i64 n)∧w'.cell? ⟨w.heap.size+1+1,1,none⟩=some (.int .i64 t)∧w'.cell? ⟨w.heap.size+1+1,2,none⟩=some (.int .i64 s)∧w'.cell? ⟨w.heap.size+1+1,3,none⟩=some (.int .u32 b)∧w'.cell? ⟨w.heap.size+1+1,4,none⟩=some (.int .u32 c))
   (first | exact KC.out _ (by assumption) | exact KC.out _ (Below.drew (by assumption)))
   (first
     | (go_at_call 154; refine (MC.out _ (by first | assumption | exact Below.drew (by assumption))).mono ?_; rintro e w1 ⟨rfl,hb1⟩)
     | (go_at_call 155; refine (PC.out _ (by first | assumption | exact Below.drew (by assumption))).mono ?_; rintro e w2 ⟨rfl,hb2⟩))
  have B1':=B1.below hb2 B1.lt
  obtain⟨d0,d1,d2,d3,d4⟩:=B1'.cells5
  have z1:=B1'.fz
  have hz1:=B1'.lt
  clear hb0 hq
  go_wp2_with fail
  refine bodyPost_ret (v:=.tuple #[.agg #[.int .i64 0,.int .i64 0,.int .i64 0,.int .u32 0,.int .u32 0],.int .i64 10]) (by simp [results,Tryz.results162,go_sem,d0,d1,d2,d3,d4]) rfl ⟨rfl,?_⟩
  exact (((((below_top hbW hb2).setCell (by simp) _).setCell (by simp) _).setCell (by simp) _).setCell (by simp) _).setCell (by simp) _
end
section
open Go.RowKit
def HM.w (h:HM) (i:Nat):Nat:=h.words.getD i 0
def HM.hd (h:HM) (i:Nat):Hd:=unhd (h.w i) (h.w (i+1)) (h.w (i+2))
def HM.hdAt (h:HM) (i:Nat):Prop:=i+3+(h.hd i).size≤h.words.length∧okhd (h.w i) (h.w (i+1)) (h.w (i+2))=true
theorem HM.Fit.w {h:HM} (f:HM.Fit h) (i:Nat):h.w i<4294967296:=f.word i
theorem HM.hd_fit {h:HM} (f:h.Fit) (i:Nat):(h.hd i).Fit:=unhd_fit _ _ _ (f.w _) (f.w _)
set_option maxHeartbeats 1000000 in
theorem header_any {w:World} {p:HP} {h:HM} (H:HAt w p h) (f:h.Fit) (hs:Spares w) (i:Nat) (hi:h.hdAt i):
 Calls Tryz.prog 148 #[ptr p.g,.int .i64 i] w fun e w'=>e = .returned (h.hd i).val∧Below w.heap.size w w':=by
 obtain⟨h3,hok⟩:=hi
 have h3:i+3≤h.words.length:=by omega
 have q0:w.cell? ⟨p.gw,i,none⟩=some (.int .u32 (h.w i:Nat)):=H.word (by omega)
 have q1:w.cell? ⟨p.gw,i+1,none⟩=some (.int .u32 (h.w (i+1):Nat)):=H.word (by omega)
 have q2:w.cell? ⟨p.gw,i+2,none⟩=some (.int .u32 (h.w (i+2):Nat)):=H.word (by omega)
 have c0:=H.c0
 have hcap:h.words.length≤p.cw:=by have:=H.2.1; obtain⟨_,_,h1,_⟩:=this; simpa [u32s] using h1
 have hcm:p.cw≤9223372036854775807:=by have:=H.2.1; obtain⟨_,_,_,h1,_⟩:=this; unfold maxLen at h1; exact h1
 have b0:=f.w i
 have b1:=f.w (i+1)
 have b2:=f.w (i+2)
 have hlg:p.gw<w.heap.size:=H.lt (.inr (.inl rfl))
 have hng:w.heap.size≠p.gw:=by omega
 have hlh:p.g<w.heap.size:=H.lt (.inl rfl)
 have HX:=Lib.hid (show (h.hd i).val=(unhd (h.w i) (h.w (i+1)) (h.w (i+2))).val from rfl)
 have hx2:(unhd (h.w i) (h.w (i+1)) (h.w (i+2))).val = .agg #[.int .i64 (h.w i%16777216:Nat),.int .i64 (h.w i / 16777216%8:Nat),.int .i64 (h.w i / 134217728%4:Nat),.int .u32 (h.w (i+1)),.int .u32 (h.w (i+2))]:=rfl
 have HX2:=Lib.hid hx2
 have HOK:=Lib.hid hok
 have HS:=Lib.hid hs
 clear hok hs hx2
 generalize h.w i=a at *
 generalize h.w (i+1)=b at *
 generalize h.w (i+2)=c at *
 have har:∀ (a:Addr) (c:Nat) (w:World),(Instr.arrayAt 170 (.slice (some a) 3 c)).run Tryz.prog w = .ok (.pointer (some a)) w:=fun a c w=>by
  have ht:Tryz.prog.underlying 170=some (.array 3 37):=Tryz.underlying170
  simp [Instr.arrayAt,run_underlying ht]
 unfold ptr
 go_enter Tryz.func148,Tryz.ntmps148
 go_wp2_with fail
 refine (unpack_any a b c b0 b1 b2 _ (HS.out.below ((Below.refl _ _).alloc (Nat.le_refl _) _)) HOK.out).mono ?_
 rintro e w1 ⟨rfl,hb1⟩
 rw [HX2.out]
 rw [HX2.out] at HX
 clear HX2 HOK
 generalize a%16777216=n at *
 generalize a / 16777216%8=t at *
 generalize a / 134217728%4=s at *
 have hb:Below w.heap.size w w1:=((Below.refl _ _).alloc (Nat.le_refl _) _).trans (hb1.mono (by simp))
 have B1:=Blk.below (Blk.new w _ _) hb1 (by simp)
 have hz:w.heap.size<w1.heap.size:=by have:=hb1.size; simp at this; omega
 have hne:w1.heap.size≠w.heap.size:=by omega
 clear hb1 har q0 q1 q2 c0
 obtain⟨d0,d1,d2,d3,d4⟩:=B1.cells5
 have z1:=B1.fz
 go_wp2_with fail
 obtain⟨r0,r1,r2,r3,r4⟩:=((B1.setAll5 (.int .i64 n) (.int .i64 t) (.int .i64 s) (.int .u32 b) (.int .u32 c)).alloc (.cells #[.int .i64 n,.int .i64 t,.int .i64 s,.int .u32 b,.int .u32 c] 137)).cells5
 refine bodyPost_ret (v:=.agg #[.int .i64 n,.int .i64 t,.int .i64 s,.int .u32 b,.int .u32 c]) (by simp [results,Tryz.results148,go_sem,r0,r1,r2,r3,r4]) rfl ⟨by rw [HX.out],?_⟩
 exact (((((hb.setCell (by simp) _).setCell (by simp) _).setCell (by simp) _).setCell (by simp) _).setCell (by simp) _).alloc (by simp [World.setCell]; omega) _
def HM.headerV (h:HM) (o:Nat):Value:=if h.isB o then .tuple #[(h.hd (o / 2)).val,.int .i64 0] else .tuple #[.agg #[.int .i64 0,.int .i64 0,.int .i64 0,.int .u32 0,.int .u32 0],.int .i64 3]
def HM.Heads (h:HM):Prop:=∀ i,h.starts.getD i false=true→h.hdAt i
set_option maxHeartbeats 1000000 in
theorem Header_any {w:World} {p:HP} {h:HM} (H:HAt w p h) (f:h.Fit) (hh:h.Heads) (hs:Spares w) (o:Nat) (ho:o<4294967296):
 Calls Tryz.prog 116 #[ptr p.g,.int .u32 o] w fun e w'=>e = .returned (h.headerV o)∧Below w.heap.size w w':=by
 have hlg:p.g<w.heap.size:=H.lt (.inl rfl)
 cases hi:h.isB o
 ·have HF:=Lib.hid (show h.headerV o = .tuple #[.agg #[.int .i64 0,.int .i64 0,.int .i64 0,.int .u32 0,.int .u32 0],.int .i64 3] by simp [HM.headerV,hi])
  have hb0:∀ o,Below w.heap.size w (w.alloc o):=fun o=>(Below.refl _ _).alloc (Nat.le_refl _) _
  have HI:=Lib.hid (fun x=>is_any (H.below (hb0 x)) f o ho)
  clear hb0
  rw [hi] at HI
  clear hi
  unfold ptr at HI ⊢
  go_enter Tryz.func116,Tryz.ntmps116
  go_wp2_with fail
  refine (HI.out _).mono ?_
  rintro e w1 ⟨rfl,rfl⟩
  go_wp2_with fail
  refine bodyPost_ret (v:=.tuple #[.agg #[.int .i64 0,.int .i64 0,.int .i64 0,.int .u32 0,.int .u32 0],.int .i64 3]) (by simp [results,Tryz.results116,go_sem]) rfl ⟨by rw [HF.out],?_⟩
  exact (Below.refl _ _).alloc (Nat.le_refl _) _
 ·have hk:objB o=true:=by unfold HM.isB at hi; simp only [Bool.and_eq_true] at hi; exact hi.1
  have hd:h.hdAt (o / 2):=hh _ (by unfold HM.isB at hi; simp only [Bool.and_eq_true] at hi; exact hi.2)
  have HF:=Lib.hid (show h.headerV o = .tuple #[(h.hd (o / 2)).val,.int .i64 0] by simp [HM.headerV,hi])
  have hb0:∀ o,Below w.heap.size w (w.alloc o):=fun o=>(Below.refl _ _).alloc (Nat.le_refl _) _
  have HI:=Lib.hid (fun x=>is_any (H.below (hb0 x)) f o ho)
  rw [hi] at HI
  have HA:=Lib.hid (fun w=>at_any p.g o ho hk w)
  have HH:=Lib.hid (fun x=>header_any (H.below (hb0 x)) f (hs.below (hb0 x)) (o / 2) hd)
  have HX:=Lib.hid (show (h.hd (o / 2)).val = .agg #[.int .i64 (h.hd (o / 2)).size,.int .i64 (h.hd (o / 2)).fmt,.int .i64 (h.hd (o / 2)).spare,.int .u32 (h.hd (o / 2)).cls,.int .u32 (h.hd (o / 2)).ser] from rfl)
  clear hi hk hb0 hd
  generalize o / 2=q at *
  generalize h.hd q=x at *
  unfold ptr at HI HA HH ⊢
  go_enter Tryz.func116,Tryz.ntmps116
  go_wp2_with fail
  refine (HI.out _).mono ?_
  rintro e w1 ⟨rfl,rfl⟩
  go_wp2_with fail
  refine (HA.out _).mono ?_
  rintro e w1 ⟨rfl,rfl⟩
  go_wp2_with fail
  refine (HH.out _).mono ?_
  rintro e w1 ⟨rfl,hb1⟩
  rw [HX.out]
  have hb:Below w.heap.size w w1:=((Below.refl _ _).alloc (Nat.le_refl _) _).trans (hb1.mono (by simp))
  have B1:=Blk.below (Blk.new w _ _) hb1 (by simp)
  clear hb1
  obtain⟨d0,d1,d2,d3,d4⟩:=B1.cells5
  have z1:=B1.fz
  have hz:=B1.lt
  go_wp2_with fail
  refine bodyPost_ret (v:=.tuple #[.agg #[.int .i64 x.size,.int .i64 x.fmt,.int .i64 x.spare,.int .u32 x.cls,.int .u32 x.ser],.int .i64 0]) (by simp [results,Tryz.results116,go_sem,d0,d1,d2,d3,d4]) rfl ⟨by rw [HF.out,HX.out],?_⟩
  exact ((((hb.setCell (by simp) _).setCell (by simp) _).setCell (by simp) _).setCell (by simp) _).setCell (by simp) _
end
end Go.Proofs.YtdoahpflemgaeaaGreatDoor
