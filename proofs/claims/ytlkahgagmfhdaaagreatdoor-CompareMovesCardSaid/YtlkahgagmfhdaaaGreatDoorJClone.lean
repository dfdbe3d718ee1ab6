import Derived.Test.YtlkahgagmfhdaaaGreatDoorJLook
import Derived.Lib.LazyBuf
set_option linter.unusedVariables false
set_option linter.unusedSectionVars false
open Go.Lib renaming run_eql_slice_nil→ae
open Nat renaming le_refl→af,zero_add→aj
open List renaming nil_append→ag,replicate→aq,mem_map→ar
open Go.Value renaming ownBlock→ah
open Go.World renaming size_alloc→ai,block_lt_of_cell?→ak
set_option maxHeartbeats 1000000
namespace Go.Proofs.YtlkahgagmfhdaaaGreatDoor
section
open Go.RowKit
theorem jR:(Tryz.prog.info? 32).map (fun i=>(i.zero,i.size,i.bytes))=some (some (.int .u32 0),1,4):=by kernel_rfl
theorem wS:(Tryz.prog.info? 4).map (fun i=>(i.zero,i.size,i.bytes))=some (some (.bool false),1,1):=by kernel_rfl
theorem lZ:(Tryz.prog.info? 54).map (fun i=>(i.zero,i.size,i.bytes))=some (some (.int .u32 0),1,4):=by kernel_rfl
theorem kW:(Tryz.prog.info? 5).map (fun i=>(i.zero,i.size,i.bytes))=some (some (.int .u8 0),1,1):=by kernel_rfl
def pU (e:TypeId)(xs:List Value)(w:World)(d:Ending)(w':World):Prop:=
 ∃ g c,d= .returned (.slice (some ⟨g,0,none⟩) xs.length c)/\Row w' g e c xs/\w.heap.size<=g/\Below w.heap.size w w'
theorem fU (l:List Nat):∀ u∈eN l,u.oneCell'=true:=by
 intro u hu;obtain⟨x,_,rfl⟩:=ar.1 hu;rfl
theorem Nb (l:List Bool):∀ u∈bools l,u.oneCell'=true:=by
 intro u hu;obtain⟨x,_,rfl⟩:=ar.1 hu;rfl
theorem mD (w:World)(e:TypeId):(w.alloc (.cells #[] e)).ownsRow w.heap.size e 1 (.slice (some ⟨w.heap.size,0,none⟩) 0 0) 0 []:=
 ⟨rfl,.inr ⟨w.heap.size,0,#[],rfl,af _,eW.new w e #[],by omega,by decide,rfl,rfl⟩⟩
theorem CI {w:World}{g c:Nat}{xs:List Value}(hr:Row w g 32 c xs)(h1:∀ u∈xs,u.oneCell'=true)(hn:0<xs.length)(hm:xs.length<=2097152):
 Calls Tryz.prog 100 #[.slice (some ⟨g,0,none⟩) xs.length c] w (pU 32 xs w):=by
 obtain⟨i0,iF,hz0,hz1,hz2⟩:=info_parts jR;have hnil:=fun w=>ae (P:=Tryz.prog) w 84 32 (some ⟨g,0,none⟩) xs.length c 0 0 Tryz.underlying84;have HR:=aa (hr.alloc (.cells #[] 32));clear hr;have uz:=aa (HR.o.reads HR.o.lt);clear HR;generalize hl:xs.length=n at*;have HL:=aa hl;clear hl;have H1:=aa h1;clear h1;go_enter Tryz.func100,Tryz.ntmps100;go_wp2_with (at_builtin;refine eM _ rfl (.tmp 5) (.tmp 6) _ rfl w.heap.size 32 i0 _ 1 4 Tryz.underlying84 iF hz0 hz1 hz2 rfl (by omega) (.slice (some ⟨w.heap.size,0,none⟩) 0 0) 0 [] rfl (mD w _) _ (some ⟨g,0,none⟩) n c xs rfl uz.o H1.o (by simp only[maxLen];omega) (by omega) (by simp) ?_;intro v1 w1 hown1 hg1 wR);have hb1:Below w.heap.size w w1:=((Below.refl _ _).alloc (af _) _).grown hg1 (by simp) (fun k hk=>by simp[ah]at hk;omega);rw[aj,ag]at hown1;obtain⟨g1,c1,rfl,hrow,hlen,mS⟩:=Row.apk hown1 hn;clear hown1 hg1 wR;go_wp2_with fail;go_ret;exact⟨g1,c1,by rw[HL.o];rfl,hrow,mS,hb1⟩
theorem I5 {w:World}{g c:Nat}{xs:List Value}(hr:Row w g 4 c xs)(h1:∀ u∈xs,u.oneCell'=true)(hn:0<xs.length)(hm:xs.length<=2097152):
 Calls Tryz.prog 138 #[.slice (some ⟨g,0,none⟩) xs.length c] w (pU 4 xs w):=by
 obtain⟨i0,iF,hz0,hz1,hz2⟩:=info_parts wS;have hnil:=fun w=>ae (P:=Tryz.prog) w 108 4 (some ⟨g,0,none⟩) xs.length c 0 0 Tryz.underlying108;have HR:=aa (hr.alloc (.cells #[] 4));clear hr;have uz:=aa (HR.o.reads HR.o.lt);clear HR;generalize hl:xs.length=n at*;have HL:=aa hl;clear hl;have H1:=aa h1;clear h1;go_enter Tryz.func138,Tryz.ntmps138;go_wp2_with (at_builtin;refine eM _ rfl (.tmp 5) (.tmp 6) _ rfl w.heap.size 4 i0 _ 1 1 Tryz.underlying108 iF hz0 hz1 hz2 rfl (by omega) (.slice (some ⟨w.heap.size,0,none⟩) 0 0) 0 [] rfl (mD w _) _ (some ⟨g,0,none⟩) n c xs rfl uz.o H1.o (by simp only[maxLen];omega) (by omega) (by simp) ?_;intro v1 w1 hown1 hg1 wR);have hb1:Below w.heap.size w w1:=((Below.refl _ _).alloc (af _) _).grown hg1 (by simp) (fun k hk=>by simp[ah]at hk;omega);rw[aj,ag]at hown1;obtain⟨g1,c1,rfl,hrow,hlen,mS⟩:=Row.apk hown1 hn;clear hown1 hg1 wR;go_wp2_with fail;go_ret;exact⟨g1,c1,by rw[HL.o];rfl,hrow,mS,hb1⟩
theorem CH {w:World}{g c:Nat}{xs:List Value}(hr:Row w g 54 c xs)(h1:∀ u∈xs,u.oneCell'=true)(hn:0<xs.length)(hm:xs.length<=2097152):
 Calls Tryz.prog 131 #[.slice (some ⟨g,0,none⟩) xs.length c] w (pU 54 xs w):=by
 obtain⟨i0,iF,hz0,hz1,hz2⟩:=info_parts lZ;have hnil:=fun w=>ae (P:=Tryz.prog) w 101 54 (some ⟨g,0,none⟩) xs.length c 0 0 Tryz.underlying101;have HR:=aa (hr.alloc (.cells #[] 54));clear hr;have uz:=aa (HR.o.reads HR.o.lt);clear HR;generalize hl:xs.length=n at*;have HL:=aa hl;clear hl;have H1:=aa h1;clear h1;go_enter Tryz.func131,Tryz.ntmps131;go_wp2_with (at_builtin;refine eM _ rfl (.tmp 5) (.tmp 6) _ rfl w.heap.size 54 i0 _ 1 4 Tryz.underlying101 iF hz0 hz1 hz2 rfl (by omega) (.slice (some ⟨w.heap.size,0,none⟩) 0 0) 0 [] rfl (mD w _) _ (some ⟨g,0,none⟩) n c xs rfl uz.o H1.o (by simp only[maxLen];omega) (by omega) (by simp) ?_;intro v1 w1 hown1 hg1 wR);have hb1:Below w.heap.size w w1:=((Below.refl _ _).alloc (af _) _).grown hg1 (by simp) (fun k hk=>by simp[ah]at hk;omega);rw[aj,ag]at hown1;obtain⟨g1,c1,rfl,hrow,hlen,mS⟩:=Row.apk hown1 hn;clear hown1 hg1 wR;go_wp2_with fail;go_ret;exact⟨g1,c1,by rw[HL.o];rfl,hrow,mS,hb1⟩
section
variable {w:World}{p:HP}{h:HM}
theorem N9 (H:fO w p h)(f:h.Fit):Calls Tryz.prog 35 #[ptr p.g] w (pU 32 (eN h.words) w):=by
 have hm:=aa (kg H (by have:=f.lo;omega) f.hi);have c0:=H.c0;have h1:=f.one;have h2:=f.room;have h3:=f.hi;have HC:=aa (CI H.2.1 (fU _) (by rw[eY];omega) (by rw[eY];omega));rw[eY]at HC;unfold ptr at hm ⊢;go_enter Tryz.func35,Tryz.ntmps35;go_wp2_with fail;refine hm.o.mono ?_;rintro e w' ⟨rfl,rfl⟩;go_wp2_with fail;refine HC.o.mono ?_;rintro e w1 ⟨g,c,rfl,hrow,mS,hb⟩;go_wp2_with fail;go_ret;exact⟨g,c,rfl,hrow,mS,hb⟩
theorem sJ (H:fO w p h)(f:h.Fit):Calls Tryz.prog 54 #[ptr p.g] w (pU 54 (eN h.roots) w):=by
 have hm:=aa (kg H (by have:=f.lo;omega) f.hi);have c0:=H.c2;have h1:=f.roots;have HC:=aa (CH H.2.2.2 (fU _) (by rw[eY];omega) (by rw[eY];omega));rw[eY]at HC;have H1:=aa h1;clear h1;unfold ptr at hm ⊢;go_enter Tryz.func54,Tryz.ntmps54;go_wp2_with fail;refine hm.o.mono ?_;rintro e w' ⟨rfl,rfl⟩;go_wp2_with fail;refine HC.o.mono ?_;rintro e w1 ⟨g,c,rfl,hrow,mS,hb⟩;go_wp2_with fail;go_ret;exact⟨g,c,rfl,hrow,mS,hb⟩
end
end
section
open Go.RowKit
def HM.new (size:Nat):HM:=⟨size,[0],[false],aq 64 0,0⟩
theorem HM.aqP {n:Nat}(h1:64<=n)(h2:n<=1048576):(HM.new n).Fit:=
 ⟨h1,h2,by simp[HM.new],by simp[HM.new];omega,rfl,by simp[HM.new],by simp[HM.new],by
   intro x hx;have:=List.eq_of_mem_replicate hx;omega,by simp[HM.new]⟩
def sT:Array Value:=Array.replicate 64 (.int .u32 0)
theorem ahX (w:World):(Instr.makeSlice 101 (.int .i64 64) (.int .i64 64)).run Tryz.prog w= .ok (.slice (some ⟨w.heap.size,0,none⟩) 64 64) (w.alloc (.cells sT 54)):=by kernel_rfl
theorem N_ (w:World):Row (w.alloc (.cells sT 54)) w.heap.size 54 64 (eN (aq 64 0)):=
 ⟨sT,eW.new w _ _,by simp[eN],by decide,by simp[sT],by simp[sT,eN]⟩
def uR (At:World->HP->HM->Prop)(v:Nat->Value)(h:HM)(w:World)(d:Ending)(w':World):Prop:=
 ∃ p,d= .returned (v p.g)/\At w' p h/\(∀ k,p.has k->w.heap.size<=k)/\Below w.heap.size w w'
theorem EI (n:Nat)(h1:64<=n)(h2:n<=1048576)(w:World):
 Calls Tryz.prog 73 #[.int .i64 n] w (uR fO (fun g=> .tuple #[ptr g,.int .i64 0]) (HM.new n) w):=by
 have Gn:=ahX;have Iq:decide ((n:Int)<64)=false:=by simp;omega
 have qY:decide ((n:Int)>1048576)=false:=by simp;omega
 go_enter Tryz.func73,Tryz.ntmps73;go_wp2_with fail;go_ret2;refine⟨⟨w.heap.size+1+1+1,w.heap.size,1,w.heap.size+1,1,w.heap.size+1+1,64⟩,by simp[ptr],?_,?_,?_⟩
 .refine⟨?_,?_,?_,?_⟩
  .have:=eW.new (((w.alloc (.cells #[.int .u32 0] 32)).alloc (.cells #[.bool false] 4)).alloc (.cells sT 54)) 110 #[.slice (some ⟨w.heap.size,0,none⟩) 1 1,.slice (some ⟨w.heap.size+1,0,none⟩) 1 1,.slice (some ⟨w.heap.size+1+1,0,none⟩) 64 64,.int .i64 n,.int .u32 0];simp only[ai]at this;exact this
  .have:Row (w.alloc (.cells #[.int .u32 0] 32)) w.heap.size 32 1 (eN [0]):=⟨_,eW.new w _ _,by simp[eN],by decide,rfl,rfl⟩;exact ((this.alloc _).alloc _).alloc _
  .have:Row ((w.alloc (.cells #[.int .u32 0] 32)).alloc (.cells #[.bool false] 4)) (w.alloc (.cells #[.int .u32 0] 32)).heap.size 4 1 (bools [false]):=⟨_,eW.new _ _ _,by simp[bools],by decide,rfl,rfl⟩;rw[ai]at this;exact (this.alloc _).alloc _
  .have:=N_ ((w.alloc (.cells #[.int .u32 0] 32)).alloc (.cells #[.bool false] 4));rw[ai,ai]at this;exact this.alloc _
 .rintro k (rfl|rfl|rfl|rfl) <;> simp <;> omega
 .exact ((((Below.refl _ _).alloc (af _) _).alloc (by simp) _).alloc (by simp;omega) _).alloc (by simp;omega) _
theorem UD (n:Int)(h:n<64\/1048576<n)(w:World):
 Calls Tryz.prog 73 #[.int .i64 n] w fun e w'=>e= .returned (.tuple #[.pointer none,.int .i64 1])/\w=w':=by
 by_cases h0:n<64
 .have Iq:decide (n<64)=true:=by simpa using h0
  go_enter Tryz.func73,Tryz.ntmps73;go_wp2_with fail;go_ret2;exact⟨by simp,rfl⟩
 .have Iq:decide (n<64)=false:=by simpa using h0
  have qY:1048576<n:=by omega
  clear h h0;go_enter Tryz.func73,Tryz.ntmps73;go_wp2_with fail;go_ret2;exact⟨by simp,rfl⟩
end
section
open Go.RowKit
def V8 (p:HP):Prop:=∀ k,p.has k->k≠0/\k≠0
theorem Step.apl {p p':HP}{w w':World}(s:Step p p' w w')(hp:V8 p)(hs:eX w):eX w':=fun i hi=>by
 have hlt:=ak _ _ (hs i hi);rw[<-hs i hi];exact World.cell?_of_block (s.block _ hlt (fun hh=>(hp _ hh).1 rfl))
theorem eX.lt {w:World}(hs:eX w):0<w.heap.size:=ak _ _ (hs 0 (by omega))
end
section
open Go.RowKit
theorem I4 {w:World}(ad:Addr)(n c:Nat){xs:List Value}(hr:eQ w w.heap.size 1 (some ad) n xs)(h1:∀ u∈xs,u.oneCell'=true)(hn:0<n)(hm:n<=2097152):
 Calls Tryz.prog 100 #[.slice (some ad) n c] w (pU 32 xs w):=by
 obtain⟨i0,iF,hz0,hz1,hz2⟩:=info_parts jR;have hnil:=fun w=>ae (P:=Tryz.prog) w 84 32 (some ad) n c 0 0 Tryz.underlying84;have uz:=aa (hr.alloc (af _) (.cells #[] 32));have HL:=aa (show xs.length=n by have:=hr.1;omega);clear hr;have H1:=aa h1;clear h1;go_enter Tryz.func100,Tryz.ntmps100;go_wp2_with (at_builtin;refine eM _ rfl (.tmp 5) (.tmp 6) _ rfl w.heap.size 32 i0 _ 1 4 Tryz.underlying84 iF hz0 hz1 hz2 rfl (by omega) (.slice (some ⟨w.heap.size,0,none⟩) 0 0) 0 [] rfl (mD w _) _ (some ad) n c xs rfl uz.o H1.o (by simp only[maxLen];omega) (by omega) (by simp) ?_;intro v1 w1 hown1 hg1 wR);have hb1:Below w.heap.size w w1:=((Below.refl _ _).alloc (af _) _).grown hg1 (by simp) (fun k hk=>by simp[ah]at hk;omega);rw[aj,ag]at hown1;obtain⟨g1,c1,rfl,hrow,hlen,mS⟩:=Row.apk hown1 hn;clear hown1 hg1 wR;go_wp2_with fail;go_ret;exact⟨g1,c1,by rw[HL.o];rfl,hrow,mS,hb1⟩
theorem I3 {w:World}(ad:Addr)(n c:Nat){xs:List Value}(hr:eQ w w.heap.size 1 (some ad) n xs)(h1:∀ u∈xs,u.oneCell'=true)(hn:0<n)(hm:n<=2097152):
 Calls Tryz.prog 131 #[.slice (some ad) n c] w (pU 54 xs w):=by
 obtain⟨i0,iF,hz0,hz1,hz2⟩:=info_parts lZ;have hnil:=fun w=>ae (P:=Tryz.prog) w 101 54 (some ad) n c 0 0 Tryz.underlying101;have uz:=aa (hr.alloc (af _) (.cells #[] 54));have HL:=aa (show xs.length=n by have:=hr.1;omega);clear hr;have H1:=aa h1;clear h1;go_enter Tryz.func131,Tryz.ntmps131;go_wp2_with (at_builtin;refine eM _ rfl (.tmp 5) (.tmp 6) _ rfl w.heap.size 54 i0 _ 1 4 Tryz.underlying101 iF hz0 hz1 hz2 rfl (by omega) (.slice (some ⟨w.heap.size,0,none⟩) 0 0) 0 [] rfl (mD w _) _ (some ad) n c xs rfl uz.o H1.o (by simp only[maxLen];omega) (by omega) (by simp) ?_;intro v1 w1 hown1 hg1 wR);have hb1:Below w.heap.size w w1:=((Below.refl _ _).alloc (af _) _).grown hg1 (by simp) (fun k hk=>by simp[ah]at hk;omega);rw[aj,ag]at hown1;obtain⟨g1,c1,rfl,hrow,hlen,mS⟩:=Row.apk hown1 hn;clear hown1 hg1 wR;go_wp2_with fail;go_ret;exact⟨g1,c1,by rw[HL.o];rfl,hrow,mS,hb1⟩
end
end Go.Proofs.YtlkahgagmfhdaaaGreatDoor
