import Derived.Test.YtdoahpflemgaeaaGreatDoorJLook
import Derived.Test.YtdoahpflemgaeaaGreatDoorJClone
import Derived.Test.YtdoahpflemgaeaaGreatDoorShelf
import Derived.Lib.ItoaLen
set_option linter.unusedVariables false
namespace Go.Proofs.YtdoahpflemgaeaaGreatDoor
section
open Go.RowKit Go.Sort Go.Lib
def Pow (w:World):Prop:=Lib.TabIs Tryz.prog w "internal/strconv.uint64pow10" .u64 Lib.pow10Tab
theorem pow_named:Tryz.prog.globalNamed "internal/strconv.uint64pow10" = some 2:=by kernel_rfl
theorem Pow.of_block {w w':World} (h:Pow w) (hb:2<w.heap.size→w'.heap[2]? = w.heap[2]?):Pow w':=by
 unfold Pow Lib.TabIs World.var? at h ⊢
 rw [pow_named] at h ⊢
 simp only [Option.bind_some] at h ⊢
 have hlt:2<w.heap.size:=by
  rcases Nat.lt_or_ge 2 w.heap.size with h' | h'
  ·exact h'
  ·rw [Array.getElem?_eq_none h'] at h; cases h
 rw [hb hlt]
 exact h
theorem Pow.below {w w':World} (h:Pow w) (hb:Below w.heap.size w w'):Pow w':=h.of_block fun hlt=>hb.block _ hlt
theorem below_grow (w:World) (k:Nat) (os:Array Obj):Below w.heap.size w (grow (w.drewN k) os):=
 ⟨rfl,rfl,rfl,by simp [grow],fun i hi=>by
   show ((w.drewN k).heap++os)[i]? = _
   rw [Array.getElem?_append_left (by show i<w.heap.size; omega)]
   rfl⟩
def str (l:List UInt8):Value:=.string ⟨l.toArray⟩
theorem itoa_any (n:Int) (h0: -9223372036854775808≤n) (h1:n≤9223372036854775807) (w:World) (hp:Pow w):
 Calls Tryz.prog 121 #[.int .i64 n] w fun e w'=>e = .returned (str (Lib.itoa n))∧Below w.heap.size w w':=
 (Tryz.strconv_Itoa n h0 h1 w hp).mono fun e w' ⟨he,k,os,hw⟩=>⟨he,hw ▸ below_grow w k os⟩
def smallV (o:Nat):Int:=if o<2147483648 then (o / 2:Nat) else ((o / 2:Nat):Int)-2147483648
theorem smallV_lo (o:Nat) (ho:o<4294967296): -1073741824≤smallV o:=by unfold smallV; split <;> omega
theorem smallV_hi (o:Nat) (ho:o<4294967296):smallV o≤1073741823:=by unfold smallV; split <;> omega
theorem Value_any (o:Nat) (ho:o<4294967296) (h1:o%2=1) (w:World):
 Calls Tryz.prog 107 #[.int .u32 o] w fun e w'=>e = .returned (.tuple #[.int .i64 (smallV o),.int .i64 0])∧w=w':=by
 have HK:=Lib.hid (kind_any o ho w)
 rw [show kindM o=1 by unfold kindM; rw [if_neg (by omega),if_pos h1]] at HK
 by_cases h:o<2147483648
 ·have HF:=Lib.hid (show smallV o=(o:Int) / 2 by unfold smallV; rw [if_pos h]; omega)
  clear h1
  go_enter Tryz.func107,Tryz.ntmps107
  go_wp2_with fail
  refine HK.out.mono ?_
  rintro e w1 ⟨rfl,rfl⟩
  go_wp2_with fail
  go_ret2
  exact⟨by rw [HF.out]; rfl,rfl⟩
 ·have HF:=Lib.hid (show smallV o=((o:Int)-4294967296) / 2 by unfold smallV; rw [if_neg h]; omega)
  have hw:IntKind.i32.wrap (o:Int)=(o:Int)-4294967296:=by
   have hb:IntKind.i32.bits=32:=rfl
   have hm:(o:Int)%4294967296=o:=by omega
   unfold IntKind.wrap
   simp [hb,hm,IntKind.signed]
   omega
  have hw2:IntKind.i32.wrap (((o:Int)-4294967296) / 2)=((o:Int)-4294967296) / 2:=IntWalk.i32_in _ (by omega)
  have hw3:IntKind.i64.wrap (((o:Int)-4294967296) / 2)=((o:Int)-4294967296) / 2:=IntWalk.i64_in _ (by omega)
  clear h1
  go_enter Tryz.func107,Tryz.ntmps107
  go_wp2_with fail
  refine HK.out.mono ?_
  rintro e w1 ⟨rfl,rfl⟩
  go_wp2_with fail
  go_ret2
  exact⟨by rw [HF.out]; rfl,rfl⟩
def HM.byteN (h:HM) (o:Nat) (i:Int):Nat:=if h.lookE o i [2]=0 then fb h o i.toNat else 0
def HM.readN (h:HM) (o:Nat) (i:Int) (fs:List Nat):Nat:=if h.lookE o i fs=0 then fw h o i.toNat else 0
theorem fb_lt (h:HM) (o k:Nat):fb h o k<256:=by unfold fb byteOf; exact Nat.mod_lt _ (by omega)
theorem HM.byteN_lt (h:HM) (o:Nat) (i:Int):h.byteN o i<256:=by unfold HM.byteN; have:=fb_lt h o i.toNat; split <;> omega
theorem HM.readN_lt {h:HM} (f:h.Fit) (o:Nat) (i:Int) (fs:List Nat):h.readN o i fs<4294967296:=by unfold HM.readN; have:fw h o i.toNat<4294967296:=f.w _; split <;> omega
end
end Go.Proofs.YtdoahpflemgaeaaGreatDoor
