import Derived.Test.YtdoahpflemgaeaaGreatDoorJLook
import Derived.Test.YtdoahpflemgaeaaGreatDoorJMem
import Derived.Lib.LazyBuf
set_option linter.unusedVariables false
set_option linter.unusedSectionVars false
namespace Go.Proofs.YtdoahpflemgaeaaGreatDoor
section
open Go.RowKit
theorem info_u32:(Tryz.prog.info? 37).map (fun i=>(i.zero,i.size,i.bytes))=some (some (.int .u32 0),1,4):=by kernel_rfl
theorem info_bool:(Tryz.prog.info? 4).map (fun i=>(i.zero,i.size,i.bytes))=some (some (.bool false),1,1):=by kernel_rfl
theorem info_oop:(Tryz.prog.info? 38).map (fun i=>(i.zero,i.size,i.bytes))=some (some (.int .u32 0),1,4):=by kernel_rfl
theorem info_u8:(Tryz.prog.info? 5).map (fun i=>(i.zero,i.size,i.bytes))=some (some (.int .u8 0),1,1):=by kernel_rfl
def NewRow (e:TypeId) (xs:List Value) (w:World) (d:Ending) (w':World):Prop:=
 ∃ g c,d = .returned (.slice (some ⟨g,0,none⟩) xs.length c)∧Row w' g e c xs∧w.heap.size≤g∧Below w.heap.size w w'
theorem one_u32s (l:List Nat):∀ u∈u32s l,u.oneCell'=true:=by
 intro u hu; obtain⟨x,_,rfl⟩:=List.mem_map.1 hu; rfl
theorem owns_empty (w:World) (e:TypeId):(w.alloc (.cells #[] e)).ownsRow w.heap.size e 1 (.slice (some ⟨w.heap.size,0,none⟩) 0 0) 0 []:=
 ⟨rfl,.inr ⟨w.heap.size,0,#[],rfl,Nat.le_refl _,Blk.new w e #[],by omega,by decide,rfl,rfl⟩⟩
set_option maxHeartbeats 400000 in
theorem clone_u32 {w:World} {g c:Nat} {xs:List Value} (hr:Row w g 37 c xs) (h1:∀ u∈xs,u.oneCell'=true) (hn:0<xs.length) (hm:xs.length≤2097152):
 Calls Tryz.prog 81 #[.slice (some ⟨g,0,none⟩) xs.length c] w (NewRow 37 xs w):=by
 obtain⟨i0,hi0,hz0,hz1,hz2⟩:=info_parts info_u32
 have hnil:=fun w=>Lib.run_eql_slice_nil (P:=Tryz.prog) w 54 37 (some ⟨g,0,none⟩) xs.length c 0 0 Tryz.underlying54
 have HR:=Lib.hid (hr.alloc (.cells #[] 37)); clear hr
 have HR2:=Lib.hid (HR.out.reads HR.out.lt); clear HR
 generalize hl:xs.length=n at *
 have HL:=Lib.hid hl; clear hl
 have H1:=Lib.hid h1; clear h1
 go_enter Tryz.func81,Tryz.ntmps81
 go_wp2_with (at_builtin; refine wpList_append_any _ rfl (.tmp 5) (.tmp 6) _ rfl w.heap.size 37 i0 _ 1 4 Tryz.underlying54 hi0 hz0 hz1 hz2 rfl (by omega) (.slice (some ⟨w.heap.size,0,none⟩) 0 0) 0 [] rfl (owns_empty w _) _ (some ⟨g,0,none⟩) n c xs rfl HR2.out H1.out (by simp only [maxLen]; omega) (by omega) (by simp) ?_; intro v1 w1 hown1 hg1 hat1)
 have hb1:Below w.heap.size w w1:=((Below.refl _ _).alloc (Nat.le_refl _) _).grown hg1 (by simp) (fun k hk=>by simp [Value.ownBlock] at hk; omega)
 rw [Nat.zero_add,List.nil_append] at hown1
 obtain⟨g1,c1,rfl,hrow,hlen,hge⟩:=Row.of_any hown1 hn
 clear hown1 hg1 hat1
 go_wp2_with fail
 go_ret
 exact⟨g1,c1,by rw [HL.out]; rfl,hrow,hge,hb1⟩
set_option maxHeartbeats 400000 in
theorem clone_oop {w:World} {g c:Nat} {xs:List Value} (hr:Row w g 38 c xs) (h1:∀ u∈xs,u.oneCell'=true) (hn:0<xs.length) (hm:xs.length≤2097152):
 Calls Tryz.prog 82 #[.slice (some ⟨g,0,none⟩) xs.length c] w (NewRow 38 xs w):=by
 obtain⟨i0,hi0,hz0,hz1,hz2⟩:=info_parts info_oop
 have hnil:=fun w=>Lib.run_eql_slice_nil (P:=Tryz.prog) w 55 38 (some ⟨g,0,none⟩) xs.length c 0 0 Tryz.underlying55
 have HR:=Lib.hid (hr.alloc (.cells #[] 38)); clear hr
 have HR2:=Lib.hid (HR.out.reads HR.out.lt); clear HR
 generalize hl:xs.length=n at *
 have HL:=Lib.hid hl; clear hl
 have H1:=Lib.hid h1; clear h1
 go_enter Tryz.func82,Tryz.ntmps82
 go_wp2_with (at_builtin; refine wpList_append_any _ rfl (.tmp 5) (.tmp 6) _ rfl w.heap.size 38 i0 _ 1 4 Tryz.underlying55 hi0 hz0 hz1 hz2 rfl (by omega) (.slice (some ⟨w.heap.size,0,none⟩) 0 0) 0 [] rfl (owns_empty w _) _ (some ⟨g,0,none⟩) n c xs rfl HR2.out H1.out (by simp only [maxLen]; omega) (by omega) (by simp) ?_; intro v1 w1 hown1 hg1 hat1)
 have hb1:Below w.heap.size w w1:=((Below.refl _ _).alloc (Nat.le_refl _) _).grown hg1 (by simp) (fun k hk=>by simp [Value.ownBlock] at hk; omega)
 rw [Nat.zero_add,List.nil_append] at hown1
 obtain⟨g1,c1,rfl,hrow,hlen,hge⟩:=Row.of_any hown1 hn
 clear hown1 hg1 hat1
 go_wp2_with fail
 go_ret
 exact⟨g1,c1,by rw [HL.out]; rfl,hrow,hge,hb1⟩
section
variable {w:World} {p:HP} {h:HM}
theorem words_any (H:HAt w p h) (f:h.Fit):Calls Tryz.prog 33 #[ptr p.g] w (NewRow 37 (u32s h.words) w):=by
 have hm:=Lib.hid (made_any H (by have:=f.lo; omega) f.hi)
 have c0:=H.c0
 have h1:=f.one
 have h2:=f.room
 have h3:=f.hi
 have HC:=Lib.hid (clone_u32 H.2.1 (one_u32s _) (by rw [u32s_len]; omega) (by rw [u32s_len]; omega))
 rw [u32s_len] at HC
 unfold ptr at hm ⊢
 go_enter Tryz.func33,Tryz.ntmps33
 go_wp2_with fail
 refine hm.out.mono ?_
 rintro e w' ⟨rfl,rfl⟩
 go_wp2_with fail
 refine HC.out.mono ?_
 rintro e w1 ⟨g,c,rfl,hrow,hge,hb⟩
 go_wp2_with fail
 go_ret
 exact⟨g,c,rfl,hrow,hge,hb⟩
theorem roots_any (H:HAt w p h) (f:h.Fit):Calls Tryz.prog 35 #[ptr p.g] w (NewRow 38 (u32s h.roots) w):=by
 have hm:=Lib.hid (made_any H (by have:=f.lo; omega) f.hi)
 have c0:=H.c2
 have h1:=f.roots
 have HC:=Lib.hid (clone_oop H.2.2.2 (one_u32s _) (by rw [u32s_len]; omega) (by rw [u32s_len]; omega))
 rw [u32s_len] at HC
 have H1:=Lib.hid h1
 clear h1
 unfold ptr at hm ⊢
 go_enter Tryz.func35,Tryz.ntmps35
 go_wp2_with fail
 refine hm.out.mono ?_
 rintro e w' ⟨rfl,rfl⟩
 go_wp2_with fail
 refine HC.out.mono ?_
 rintro e w1 ⟨g,c,rfl,hrow,hge,hb⟩
 go_wp2_with fail
 go_ret
 exact⟨g,c,rfl,hrow,hge,hb⟩
end
end
section
open Go.RowKit
def HM.new (size:Nat):HM:=⟨size,[0],[false],List.replicate 64 0,0⟩
theorem HM.new_fit {n:Nat} (h1:64≤n) (h2:n≤1048576):(HM.new n).Fit:=
 ⟨h1,h2,by simp [HM.new],by simp [HM.new]; omega,rfl,by simp [HM.new],by simp [HM.new],by
   intro x hx
   have:=List.eq_of_mem_replicate hx
   omega,by simp [HM.new]⟩
def zeros64:Array Value:=Array.replicate 64 (.int .u32 0)
theorem mk64 (w:World):(Instr.makeSlice 55 (.int .i64 64) (.int .i64 64)).run Tryz.prog w = .ok (.slice (some ⟨w.heap.size,0,none⟩) 64 64) (w.alloc (.cells zeros64 38)):=by kernel_rfl
theorem zeros_row (w:World):Row (w.alloc (.cells zeros64 38)) w.heap.size 38 64 (u32s (List.replicate 64 0)):=
 ⟨zeros64,Blk.new w _ _,by simp [u32s],by decide,by simp [zeros64],by simp [zeros64,u32s]⟩
def NewHeap (At:World→HP→HM→Prop) (v:Nat→Value) (h:HM) (w:World) (d:Ending) (w':World):Prop:=
 ∃ p,d = .returned (v p.g)∧At w' p h∧(∀ k,p.has k→w.heap.size≤k)∧Below w.heap.size w w'
set_option maxHeartbeats 1000000 in
theorem new_any (n:Nat) (h1:64≤n) (h2:n≤1048576) (w:World):
 Calls Tryz.prog 9 #[.int .i64 n] w (NewHeap HAt (fun g=> .tuple #[ptr g,.int .i64 0]) (HM.new n) w):=by
 have hmk:=mk64
 have hd1:decide ((n:Int)<64)=false:=by simp; omega
 have hd2:decide ((n:Int)>1048576)=false:=by simp; omega
 go_enter Tryz.func9,Tryz.ntmps9
 go_wp2_with fail
 go_ret2
 refine⟨⟨w.heap.size+1+1+1,w.heap.size,1,w.heap.size+1,1,w.heap.size+1+1,64⟩,by simp [ptr],?_,?_,?_⟩
 ·refine⟨?_,?_,?_,?_⟩
  ·have:=Blk.new (((w.alloc (.cells #[.int .u32 0] 37)).alloc (.cells #[.bool false] 4)).alloc (.cells zeros64 38)) 78 #[.slice (some ⟨w.heap.size,0,none⟩) 1 1,.slice (some ⟨w.heap.size+1,0,none⟩) 1 1,.slice (some ⟨w.heap.size+1+1,0,none⟩) 64 64,.int .i64 n,.int .u32 0]
   simp only [World.size_alloc] at this
   exact this
  ·have:Row (w.alloc (.cells #[.int .u32 0] 37)) w.heap.size 37 1 (u32s [0]):=⟨_,Blk.new w _ _,by simp [u32s],by decide,rfl,rfl⟩
   exact ((this.alloc _).alloc _).alloc _
  ·have:Row ((w.alloc (.cells #[.int .u32 0] 37)).alloc (.cells #[.bool false] 4)) (w.alloc (.cells #[.int .u32 0] 37)).heap.size 4 1 (bools [false]):=⟨_,Blk.new _ _ _,by simp [bools],by decide,rfl,rfl⟩
   rw [World.size_alloc] at this
   exact (this.alloc _).alloc _
  ·have:=zeros_row ((w.alloc (.cells #[.int .u32 0] 37)).alloc (.cells #[.bool false] 4))
   rw [World.size_alloc,World.size_alloc] at this
   exact this.alloc _
 ·rintro k (rfl | rfl | rfl | rfl) <;> simp <;> omega
 ·exact ((((Below.refl _ _).alloc (Nat.le_refl _) _).alloc (by simp) _).alloc (by simp; omega) _).alloc (by simp; omega) _
theorem new_bad (n:Int) (h:n<64∨1048576<n) (w:World):
 Calls Tryz.prog 9 #[.int .i64 n] w fun e w'=>e = .returned (.tuple #[.pointer none,.int .i64 1])∧w=w':=by
 by_cases h0:n<64
 ·have hd1:decide (n<64)=true:=by simpa using h0
  go_enter Tryz.func9,Tryz.ntmps9
  go_wp2_with fail
  go_ret2
  exact⟨by simp,rfl⟩
 ·have hd1:decide (n<64)=false:=by simpa using h0
  have hd2:1048576<n:=by omega
  clear h h0
  go_enter Tryz.func9,Tryz.ntmps9
  go_wp2_with fail
  go_ret2
  exact⟨by simp,rfl⟩
set_option maxHeartbeats 1000000 in
theorem rnew_any (n:Nat) (h1:64≤n) (h2:n≤1048576) (w:World):
 Calls Tryz.prog 15 #[.int .i64 n] w (NewHeap RAt ptr (HM.new n) w):=by
 have hmk:=mk64
 have hd1:decide ((n:Int)<64)=false:=by simp; omega
 have hd2:decide ((n:Int)>1048576)=false:=by simp; omega
 go_enter Tryz.func15,Tryz.ntmps15
 go_wp2_with fail
 go_ret
 refine⟨⟨w.heap.size+1+1+1,w.heap.size,1,w.heap.size+1+1,1,w.heap.size+1,64⟩,by simp [ptr],?_,?_,?_⟩
 ·refine⟨?_,?_,?_,?_⟩
  ·have:=Blk.new (((w.alloc (.cells #[.int .u32 0] 37)).alloc (.cells zeros64 38)).alloc (.cells #[.int .u8 0] 5)) 58 #[.int .i64 n,.slice (some ⟨w.heap.size,0,none⟩) 1 1,.slice (some ⟨w.heap.size+1,0,none⟩) 64 64,.int .u32 0,.slice (some ⟨w.heap.size+1+1,0,none⟩) 1 1]
   simp only [World.size_alloc] at this
   exact this
  ·have:Row (w.alloc (.cells #[.int .u32 0] 37)) w.heap.size 37 1 (u32s [0]):=⟨_,Blk.new w _ _,by simp [u32s],by decide,rfl,rfl⟩
   exact ((this.alloc _).alloc _).alloc _
  ·have:Row (((w.alloc (.cells #[.int .u32 0] 37)).alloc (.cells zeros64 38)).alloc (.cells #[.int .u8 0] 5)) ((w.alloc (.cells #[.int .u32 0] 37)).alloc (.cells zeros64 38)).heap.size 5 1 (begins [false]):=⟨_,Blk.new _ _ _,by simp [begins],by decide,rfl,rfl⟩
   rw [World.size_alloc,World.size_alloc] at this
   exact this.alloc _
  ·have:=zeros_row (w.alloc (.cells #[.int .u32 0] 37))
   rw [World.size_alloc] at this
   exact (this.alloc _).alloc _
 ·rintro k (rfl | rfl | rfl | rfl) <;> simp <;> omega
 ·exact ((((Below.refl _ _).alloc (Nat.le_refl _) _).alloc (by simp) _).alloc (by simp; omega) _).alloc (by simp; omega) _
theorem rnew_bad (n:Int) (h:n<64∨1048576<n) (w:World):
 Calls Tryz.prog 15 #[.int .i64 n] w fun e w'=>e = .returned (.pointer none)∧w=w':=by
 by_cases h0:n<64
 ·have hd1:decide (n<64)=true:=by simpa using h0
  go_enter Tryz.func15,Tryz.ntmps15
  go_wp2_with fail
  go_ret
  exact⟨by simp,rfl⟩
 ·have hd1:decide (n<64)=false:=by simpa using h0
  have hd2:1048576<n:=by omega
  clear h h0
  go_enter Tryz.func15,Tryz.ntmps15
  go_wp2_with fail
  go_ret
  exact⟨by simp,rfl⟩
end
section
open Go.RowKit
def Far (p:HP):Prop:=∀ k,p.has k→k≠0∧k≠2
theorem Step.spares {p p':HP} {w w':World} (s:Step p p' w w') (hp:Far p) (hs:Spares w):Spares w':=fun i hi=>by
 have hlt:=World.block_lt_of_cell? _ _ (hs i hi)
 rw [← hs i hi]
 exact World.cell?_of_block (s.block _ hlt (fun hh=>(hp _ hh).1 rfl))
theorem Spares.lt {w:World} (hs:Spares w):0<w.heap.size:=World.block_lt_of_cell? _ _ (hs 0 (by omega))
end
section
open Go.RowKit
set_option maxHeartbeats 400000 in
theorem cloneR_u32 {w:World} (ad:Addr) (n c:Nat) {xs:List Value} (hr:Reads w w.heap.size 1 (some ad) n xs) (h1:∀ u∈xs,u.oneCell'=true) (hn:0<n) (hm:n≤2097152):
 Calls Tryz.prog 81 #[.slice (some ad) n c] w (NewRow 37 xs w):=by
 obtain⟨i0,hi0,hz0,hz1,hz2⟩:=info_parts info_u32
 have hnil:=fun w=>Lib.run_eql_slice_nil (P:=Tryz.prog) w 54 37 (some ad) n c 0 0 Tryz.underlying54
 have HR2:=Lib.hid (hr.alloc (Nat.le_refl _) (.cells #[] 37))
 have HL:=Lib.hid (show xs.length=n by have:=hr.1; omega)
 clear hr
 have H1:=Lib.hid h1; clear h1
 go_enter Tryz.func81,Tryz.ntmps81
 go_wp2_with (at_builtin; refine wpList_append_any _ rfl (.tmp 5) (.tmp 6) _ rfl w.heap.size 37 i0 _ 1 4 Tryz.underlying54 hi0 hz0 hz1 hz2 rfl (by omega) (.slice (some ⟨w.heap.size,0,none⟩) 0 0) 0 [] rfl (owns_empty w _) _ (some ad) n c xs rfl HR2.out H1.out (by simp only [maxLen]; omega) (by omega) (by simp) ?_; intro v1 w1 hown1 hg1 hat1)
 have hb1:Below w.heap.size w w1:=((Below.refl _ _).alloc (Nat.le_refl _) _).grown hg1 (by simp) (fun k hk=>by simp [Value.ownBlock] at hk; omega)
 rw [Nat.zero_add,List.nil_append] at hown1
 obtain⟨g1,c1,rfl,hrow,hlen,hge⟩:=Row.of_any hown1 hn
 clear hown1 hg1 hat1
 go_wp2_with fail
 go_ret
 exact⟨g1,c1,by rw [HL.out]; rfl,hrow,hge,hb1⟩
set_option maxHeartbeats 400000 in
theorem cloneR_oop {w:World} (ad:Addr) (n c:Nat) {xs:List Value} (hr:Reads w w.heap.size 1 (some ad) n xs) (h1:∀ u∈xs,u.oneCell'=true) (hn:0<n) (hm:n≤2097152):
 Calls Tryz.prog 82 #[.slice (some ad) n c] w (NewRow 38 xs w):=by
 obtain⟨i0,hi0,hz0,hz1,hz2⟩:=info_parts info_oop
 have hnil:=fun w=>Lib.run_eql_slice_nil (P:=Tryz.prog) w 55 38 (some ad) n c 0 0 Tryz.underlying55
 have HR2:=Lib.hid (hr.alloc (Nat.le_refl _) (.cells #[] 38))
 have HL:=Lib.hid (show xs.length=n by have:=hr.1; omega)
 clear hr
 have H1:=Lib.hid h1; clear h1
 go_enter Tryz.func82,Tryz.ntmps82
 go_wp2_with (at_builtin; refine wpList_append_any _ rfl (.tmp 5) (.tmp 6) _ rfl w.heap.size 38 i0 _ 1 4 Tryz.underlying55 hi0 hz0 hz1 hz2 rfl (by omega) (.slice (some ⟨w.heap.size,0,none⟩) 0 0) 0 [] rfl (owns_empty w _) _ (some ad) n c xs rfl HR2.out H1.out (by simp only [maxLen]; omega) (by omega) (by simp) ?_; intro v1 w1 hown1 hg1 hat1)
 have hb1:Below w.heap.size w w1:=((Below.refl _ _).alloc (Nat.le_refl _) _).grown hg1 (by simp) (fun k hk=>by simp [Value.ownBlock] at hk; omega)
 rw [Nat.zero_add,List.nil_append] at hown1
 obtain⟨g1,c1,rfl,hrow,hlen,hge⟩:=Row.of_any hown1 hn
 clear hown1 hg1 hat1
 go_wp2_with fail
 go_ret
 exact⟨g1,c1,by rw [HL.out]; rfl,hrow,hge,hb1⟩
end
end Go.Proofs.YtdoahpflemgaeaaGreatDoor
