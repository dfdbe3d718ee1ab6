import Derived.Test.YtdoahpflemgaeaaGreatDoorJMem
import Derived.Deep.QuietTactic
import Derived.BigQuiet
import Derived.WalkLawsBesides
set_option linter.unusedVariables false
set_option linter.unusedSectionVars false
namespace Go.Proofs.YtdoahpflemgaeaaGreatDoor
section
open Go.RowKit
def kindM (o:Nat):Nat:=if o=0 then 0 else if o%2=1 then 1 else 2
theorem u32_and_one (v:Nat) (h:v<4294967296):bits .and .u32 (v:Int) 1=((v%2:Nat):Int):=by
 rw [u32_and _ _ (by omega) (by omega) (by omega) (by omega)]
 simp
theorem kind_any (o:Nat) (ho:o<4294967296) (w:World):
 Calls Tryz.prog 83 #[.int .u32 o] w fun e w'=>e = .returned (.int .i64 (kindM o))∧w=w':=by
 have h1:=u32_and_one o ho
 by_cases h0:o=0
 ·subst h0
  go_enter Tryz.func83,Tryz.ntmps83
  go_wp2_with fail
  go_ret
  exact⟨rfl,rfl⟩
 ·have hb:((o:Int) == 0)=false:=by simpa using h0
  by_cases h2:o%2=1
  ·have hk:kindM o=1:=by simp [kindM,h0,h2]
   rw [h2] at h1
   have HK:=Lib.hid hk; clear hk h2
   go_enter Tryz.func83,Tryz.ntmps83
   go_wp2_with fail
   go_ret
   exact⟨by rw [HK.out]; rfl,rfl⟩
  ·have hk:kindM o=2:=by simp [kindM,h0,h2]
   rw [show o%2=0 by omega] at h1
   have HK:=Lib.hid hk; clear hk h2
   go_enter Tryz.func83,Tryz.ntmps83
   go_wp2_with fail
   go_ret
   exact⟨by rw [HK.out]; rfl,rfl⟩
def objB (o:Nat):Bool:=decide (kindM o=2)
theorem objB_iff (o:Nat):objB o=true↔o≠0∧o%2=0:=by
 unfold objB kindM
 by_cases h:o=0
 ·simp [h]
 ·by_cases h2:o%2=1
  ·simp [h,h2]
  ·simp [h,h2]; omega
def indexV (o:Nat):Value:=.tuple (if objB o then #[.int .i64 (o / 2:Nat),.int .i64 0] else #[.int .i64 0,.int .i64 3])
theorem index_any (o:Nat) (ho:o<4294967296) (w:World):
 Calls Tryz.prog 128 #[.int .u32 o] w fun e w'=>e = .returned (indexV o)∧w=w':=by
 by_cases hk:kindM o=2
 ·have hn:((((kindM o:Nat):Int)) == 2)=true:=by rw [hk]; rfl
  go_enter Tryz.func128,Tryz.ntmps128
  go_wp2_with fail
  refine (kind_any o ho _).mono ?_
  rintro e w' ⟨rfl,rfl⟩
  rw [hk]
  go_wp2_with fail
  go_ret2
  exact⟨by simp [indexV,objB,hk],rfl⟩
 ·have hn:((((kindM o:Nat):Int)) != 2)=true:=by simp; omega
  have hf:objB o=false:=by simp [objB,hk]
  have HF:=Lib.hid hf; clear hf
  generalize hkk:kindM o=k at hn hk
  have HKK:=Lib.hid hkk; clear hkk
  go_enter Tryz.func128,Tryz.ntmps128
  go_wp2_with fail
  refine (kind_any o ho _).mono ?_
  rintro e w' ⟨rfl,rfl⟩
  rw [HKK.out]
  go_wp2_with fail
  go_ret2
  exact⟨by simp [indexV,HF.out],rfl⟩
def HM.isB (h:HM) (o:Nat):Bool:=objB o && h.starts.getD (o / 2) false
theorem HM.isB_lt {h:HM} {o:Nat} (hi:h.isB o=true):o / 2<h.starts.length:=by
 unfold HM.isB at hi
 simp only [Bool.and_eq_true] at hi
 rcases Nat.lt_or_ge (o / 2) h.starts.length with h1 | h1
 ·exact h1
 ·rw [List.getD_eq_getElem?_getD,List.getElem?_eq_none h1] at hi; simp at hi
theorem made_any {w:World} {p:HP} {h:HM} (H:HAt w p h) (hs:0<h.size) (hs2:h.size≤1048576):
 Calls Tryz.prog 36 #[ptr p.g] w fun e w'=>e = .returned (.bool true)∧w=w':=by
 have c3:=H.c3
 have h1:decide ((h.size:Int)>0)=true:=by simp; omega
 unfold ptr
 go_enter Tryz.func36,Tryz.ntmps36
 go_wp2_with fail
 go_ret
 exact⟨by simp,rfl⟩
theorem is_any {w:World} {p:HP} {h:HM} (H:HAt w p h) (f:h.Fit) (o:Nat) (ho:o<4294967296):
 Calls Tryz.prog 84 #[ptr p.g,.int .u32 o] w fun e w'=>e = .returned (.bool (h.isB o))∧w=w':=by
 have hm:=made_any H (by have:=f.lo; omega) f.hi
 have HM':=Lib.hid hm; clear hm
 have c1:=H.c1
 have hlen:=f.marks
 have hroom:=f.room
 have hhi:=f.hi
 by_cases hk:objB o=true
 ·have hi:indexV o = .tuple #[.int .i64 (o / 2:Nat),.int .i64 0]:=by simp [indexV,hk]
  by_cases hl:o / 2<h.starts.length
  ·have hcell:=H.mark hl
   have HF:=Lib.hid (show h.isB o=h.starts.getD (o / 2) false by simp [HM.isB,hk])
   generalize h.starts.getD (o / 2) false=b at *
   generalize hq:o / 2=q at *
   have HI:=Lib.hid hi
   clear hi hq hk
   unfold ptr
   have hlt:(q:Int)<(h.starts.length:Int):=by omega
   go_enter Tryz.func84,Tryz.ntmps84
   go_wp2_with fail
   refine (index_any o ho _).mono ?_
   rintro e w' ⟨rfl,rfl⟩
   rw [HI.out]
   go_wp2_with fail
   refine HM'.out.mono ?_
   rintro e w' ⟨rfl,rfl⟩
   go_wp2_with fail
   go_ret
   exact⟨by rw [HF.out]; rfl,rfl⟩
  ·have HF:=Lib.hid (show h.isB o=false by rw [HM.isB,List.getD_eq_getElem?_getD,List.getElem?_eq_none (by omega)]; simp)
   generalize hq:o / 2=q at *
   have HI:=Lib.hid hi
   clear hi hq hk
   unfold ptr
   have hlt:(h.starts.length:Int)≤(q:Int):=by omega
   go_enter Tryz.func84,Tryz.ntmps84
   go_wp2_with fail
   refine (index_any o ho _).mono ?_
   rintro e w' ⟨rfl,rfl⟩
   rw [HI.out]
   go_wp2_with fail
   refine HM'.out.mono ?_
   rintro e w' ⟨rfl,rfl⟩
   go_wp2_with fail
   go_ret
   exact⟨by rw [HF.out]; rfl,rfl⟩
 ·have HI:=Lib.hid (show indexV o = .tuple #[.int .i64 0,.int .i64 3] by simp [indexV,hk])
  have HF:=Lib.hid (show h.isB o=false by simp [HM.isB,hk])
  clear hk
  unfold ptr
  go_enter Tryz.func84,Tryz.ntmps84
  go_wp2_with fail
  refine (index_any o ho _).mono ?_
  rintro e w' ⟨rfl,rfl⟩
  rw [HI.out]
  go_wp2_with fail
  go_ret
  exact⟨by rw [HF.out]; rfl,rfl⟩
def HM.clsB (h:HM) (c:Nat):Bool:=decide (c=0) || h.isB c
def HM.valB (h:HM) (v:Nat):Bool:= !objB v || h.isB v
theorem class_any {w:World} {p:HP} {h:HM} (H:HAt w p h) (f:h.Fit) (o:Nat) (ho:o<4294967296):
 Calls Tryz.prog 88 #[ptr p.g,.int .u32 o] w fun e w'=>e = .returned (.bool (h.clsB o))∧w=w':=by
 have HI:=Lib.hid (is_any H f o ho)
 by_cases h0:o=0
 ·subst h0
  go_enter Tryz.func88,Tryz.ntmps88
  go_wp2_with fail
  go_ret
  exact⟨by simp [HM.clsB],rfl⟩
 ·have hb:((o:Int) == 0)=false:=by simpa using h0
  have HF:=Lib.hid (show h.clsB o=h.isB o by simp [HM.clsB,h0])
  generalize h.isB o=b at *
  clear h0
  go_enter Tryz.func88,Tryz.ntmps88
  go_wp2_with fail
  refine HI.out.mono ?_
  rintro e w' ⟨rfl,rfl⟩
  go_wp2_with fail
  go_ret
  exact⟨by rw [HF.out]; rfl,rfl⟩
theorem value_any {w:World} {p:HP} {h:HM} (H:HAt w p h) (f:h.Fit) (o:Nat) (ho:o<4294967296):
 Calls Tryz.prog 37 #[ptr p.g,.int .u32 o] w fun e w'=>e = .returned (.bool (h.valB o))∧w=w':=by
 have HI:=Lib.hid (is_any H f o ho)
 have HK:=Lib.hid (kind_any o ho w)
 by_cases hk:kindM o=2
 ·have HF:=Lib.hid (show h.valB o=h.isB o by simp [HM.valB,objB,hk])
  have hb:((2:Int) != 2)=false:=rfl
  rw [hk] at HK
  clear hk
  generalize h.isB o=b at *
  go_enter Tryz.func37,Tryz.ntmps37
  go_wp2_with fail
  refine HK.out.mono ?_
  rintro e w' ⟨rfl,rfl⟩
  go_wp2_with fail
  refine HI.out.mono ?_
  rintro e w' ⟨rfl,rfl⟩
  go_wp2_with fail
  go_ret
  exact⟨by rw [HF.out]; rfl,rfl⟩
 ·have HF:=Lib.hid (show h.valB o=true by simp [HM.valB,objB,hk])
  have hb:((kindM o:Int) != 2)=true:=by simp; omega
  generalize kindM o=k at *
  clear hk
  go_enter Tryz.func37,Tryz.ntmps37
  go_wp2_with fail
  refine HK.out.mono ?_
  rintro e w' ⟨rfl,rfl⟩
  go_wp2_with fail
  go_ret
  exact⟨by rw [HF.out]; rfl,rfl⟩
theorem at_any (g:Nat) (o:Nat) (ho:o<4294967296) (hk:objB o=true) (w:World):
 Calls Tryz.prog 89 #[ptr g,.int .u32 o] w fun e w'=>e = .returned (.int .i64 (o / 2:Nat))∧w=w':=by
 have HI:=Lib.hid (show indexV o = .tuple #[.int .i64 (o / 2:Nat),.int .i64 0] by simp [indexV,hk])
 clear hk
 go_enter Tryz.func89,Tryz.ntmps89
 go_wp2_with fail
 refine (index_any o ho _).mono ?_
 rintro e w' ⟨rfl,rfl⟩
 rw [HI.out]
 go_wp2_with fail
 go_ret
 exact⟨by simp,rfl⟩
end
section
open Go.RowKit
end
end Go.Proofs.YtdoahpflemgaeaaGreatDoor
