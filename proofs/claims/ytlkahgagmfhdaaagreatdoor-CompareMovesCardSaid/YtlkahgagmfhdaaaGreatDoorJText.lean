import Derived.Test.YtlkahgagmfhdaaaGreatDoorJClone
import Derived.Lib.ItoaLen
set_option linter.unusedVariables false
namespace Go.Proofs.YtlkahgagmfhdaaaGreatDoor
section
open Go.RowKit Go.Sort Go.Lib
def Pow (w:World):Prop:=eX w
theorem Pow.below {w w':World}(h:Pow w)(hb:Below w.heap.size w w'):Pow w':=eX.below h hb
def gF (o:Nat):Int:=if o<2147483648 then (o/2:Nat) else ((o/2:Nat):Int)-2147483648
theorem sN (o:Nat)(ho:o<4294967296): -1073741824<=gF o:=by unfold gF;split <;> omega
theorem sM (o:Nat)(ho:o<4294967296):gF o<=1073741823:=by unfold gF;split <;> omega
theorem CC (o:Nat)(ho:o<4294967296)(h1:o%2=1)(w:World):
 Calls Tryz.prog 191 #[.int .u32 o] w fun e w'=>e= .returned (.tuple #[.int .i64 (gF o),.int .i64 0])/\w=w':=by
 have HK:=aa (nQ o ho w);rw[show eR o=1 by unfold eR;rw[if_neg (by omega),if_pos h1]]at HK;by_cases h:o<2147483648
 .have HF:=aa (show gF o=(o:Int)/2 by unfold gF;rw[if_pos h];omega);clear h1;go_enter Tryz.func191,Tryz.ntmps191;go_wp2_with fail;refine HK.o.mono ?_;rintro e w1 ⟨rfl,rfl⟩;go_wp2_with fail;go_ret2;exact⟨by rw[HF.o];rfl,rfl⟩
 .have HF:=aa (show gF o=((o:Int)-4294967296)/2 by unfold gF;rw[if_neg h];omega);have hw:IntKind.i32.wrap (o:Int)=(o:Int)-4294967296:=by
   have hb:IntKind.i32.bits=32:=rfl;have hm:(o:Int)%4294967296=o:=(by omega);unfold IntKind.wrap;simp[hb,hm,IntKind.signed];omega
  have hw2:IntKind.i32.wrap (((o:Int)-4294967296)/2)=((o:Int)-4294967296)/2:=IntWalk.i32_in _ (by omega);have hw3:IntKind.i64.wrap (((o:Int)-4294967296)/2)=((o:Int)-4294967296)/2:=IntWalk.i64_in _ (by omega);clear h1;go_enter Tryz.func191,Tryz.ntmps191;go_wp2_with fail;refine HK.o.mono ?_;rintro e w1 ⟨rfl,rfl⟩;go_wp2_with fail;go_ret2;exact⟨by rw[HF.o];rfl,rfl⟩
end
end Go.Proofs.YtlkahgagmfhdaaaGreatDoor
