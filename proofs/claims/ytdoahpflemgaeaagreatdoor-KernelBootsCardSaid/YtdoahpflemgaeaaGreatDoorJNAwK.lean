import Derived.Test.YtdoahpflemgaeaaGreatDoorJNFix
import Derived.Test.YtdoahpflemgaeaaGreatDoorJNAwE2
import Derived.Test.YtdoahpflemgaeaaGreatDoorJNAwB
import Derived.Test.YtdoahpflemgaeaaGreatDoorJNAwF2
import Derived.Test.YtdoahpflemgaeaaGreatDoorJText
set_option linter.unusedVariables false
set_option linter.unusedSimpArgs false
set_option linter.unusedSectionVars false
namespace Go.Proofs.YtdoahpflemgaeaaGreatDoor
section
open Go.RowKit
attribute [local go_sem] Oper.semAt_some
theorem cel_own5 {w:World} {B c:Nat} {A:Option Addr} {ts:List (List Nat)} (h:w.ownsRow B 9 1 (.slice A ts.length c) ts.length (strs5 ts)):CelT w A ts:=⟨fun i hi=>by
 obtain⟨ad,u0,hA,-,hx,hc⟩:=(own_reads5 h rfl).at_ hi
 refine⟨ad,hA,hc.trans ?_⟩
 unfold strs5 at hx
 rw [List.getElem?_map,List.getElem?_eq_getElem hi] at hx
 injection hx with hx
 rw [← hx,List.getD_eq_getElem?_getD,List.getElem?_eq_getElem hi]
 rfl⟩
theorem CelT.below {w w':World} {A:Option Addr} {ts:List (List Nat)} (h:CelT w A ts) (hb:Below w.heap.size w w'):CelT w' A ts:=⟨fun i hi=>by
 obtain⟨ad,hA,hc⟩:=h.at_ i hi
 exact⟨ad,hA,(hb.cell (World.block_lt_of_cell? _ _ hc)).trans hc⟩⟩
theorem RowT.cel {p:HP} {w:World} {A:Option Addr} {ts:List (List Nat)} (R:RowT p w A ts):CelT w A ts:=⟨fun i hi=>by
 obtain⟨ad,h1,-,-,h4⟩:=R.at_ i hi
 exact⟨ad,h1,h4⟩⟩
theorem CelT.take {w:World} {A:Option Addr} {ts:List (List Nat)} (h:CelT w A ts) (k:Nat):CelT w A (ts.take k):=⟨fun i hi=>by
 rw [List.length_take] at hi
 obtain⟨ad,hA,hc⟩:=h.at_ i (by omega)
 refine⟨ad,hA,hc.trans ?_⟩
 rw [List.getD_eq_getElem?_getD,List.getD_eq_getElem?_getD,List.getElem?_take,if_pos (by omega)]⟩
structure FldsOk (fs inh:List (List Nat)):Prop where
 name:∀ i,i<fs.length→∃ y ys,fs.getD i []=y :: ys∧isNameK (y :: ys)=true
 new:∀ i,i<fs.length→fs.getD i []∉fs.take i
 other:∀ i,i<fs.length→fs.getD i []∉inh
structure DfAt (W w wr:World) (p:HP) (g:Nat) (h:HM) (b1 b2 b3 b4 b5 sup:Nat) (t:List Nat) (A:Option Addr) (nf cap:Nat) (fs:List (List Nat)) (A2:Option Addr) (inh:List (List Nat)) (f z:Nat):Prop where
 live:Live W wr p g h
 below:Below w.heap.size w wr
 row:RowT p wr A fs
 inh:CelT wr A2 inh
 k1:OffB p wr b1 22 #[.pointer (some ⟨g,0,none⟩)]
 k2:OffB p wr b2 38 #[.int .u32 sup]
 k3:OffB p wr b3 9 #[.string (txS t)]
 k4:OffB p wr b4 50 #[.slice A nf cap]
 k5:OffB p wr b5 88 #[.int .i64 f,.int .i64 z,.bool false]
theorem DfAt.after {W w wr wr':World} {p:HP} {g:Nat} {h:HM} {b1 b2 b3 b4 b5 sup:Nat} {t:List Nat} {A:Option Addr} {nf cap:Nat} {fs:List (List Nat)} {A2:Option Addr} {inh:List (List Nat)} {f z:Nat} (D:DfAt W w wr p g h b1 b2 b3 b4 b5 sup t A nf cap fs A2 inh f z) (hb:Below wr.heap.size wr wr'):DfAt W w wr' p g h b1 b2 b3 b4 b5 sup t A nf cap fs A2 inh f z:=
 ⟨D.live.after hb,below_top D.below hb,D.row.below hb,D.inh.below hb,D.k1.below hb,D.k2.below hb,D.k3.below hb,D.k4.below hb,D.k5.below hb⟩
section
variable {W w:World} {p:HP} {g:Nat} {h:HM} (L:Live W w p g h)
include L
set_option maxRecDepth 100000 in
set_option maxHeartbeats 16000000 in
theorem kDefine_ok (sup:Nat) (hsup:sup<4294967296) (b0:Nat) (t0 t:List Nat) (ht:t=b0 :: t0) (h8:∀ x∈t,x<256) (hlen:t.length<9223372036854775807) (hnm:isNameK t=true) (hb1:65≤b0) (hb2:b0≤90) (hgl:h.gloK t=0)
 (A:Option Addr) (cap:Nat) (fs inh:List (List Nat)) (R:RowT p w A fs) (h8s:∀ t∈fs,∀ x∈t,x<256) (hls:∀ t∈fs,t.length<9223372036854775807) (hfn:fs.length≤1000) (hcap:fs.length≤cap) (hok:FldsOk fs inh)
 (hlk:h.lookK sup=0) (n f z:Nat) (hv:h.fldK sup 4=2*n+1) (hn:n<1073741824) (F:FmtOk n f z false) (hfi:h.fieldsK sup=(inh,0)) (hi8:∀ t∈inh,∀ x∈t,x<256) (hil:inh.length≤1000000000) (x:Bool) (hft:fitsK f (z+fs.length) x=true) (wd:Nat) (hwd:wd=f+8*(z+fs.length)+(if x then 65536 else 0)) (hr:(h.defK sup t fs (smN wd)).2.2=0):
 Calls Tryz.prog 24 #[.pointer (some ⟨g,0,none⟩),.int .u32 sup,.string (txS t),.slice A fs.length cap,.int .i64 f,.bool x] w (Done W p g (h.defK sup t fs (smN wd)).1 (.tuple #[.int .u32 ((h.defK sup t fs (smN wd)).2.1:Nat),.int .i64 0]) w):=by
 have hz:f≤4∧z+fs.length≤255:=by
  have:=hft
  unfold fitsK at this
  simp only [Bool.and_eq_true,decide_eq_true_eq] at this
  omega
 have L0:=L
 have hb0:Below w.heap.size w w:=Below.refl _ _
 have hs1:Below w.heap.size w (w.alloc (.cells #[.pointer (some ⟨g,0,none⟩)] 22)):=(Below.refl _ _).alloc (Nat.le_refl _) _
 have L1:=L0.after hs1
 have hb1:=below_top hb0 hs1
 have K1:OffB p (w.alloc (.cells #[.pointer (some ⟨g,0,none⟩)] 22)) w.heap.size 22 #[.pointer (some ⟨g,0,none⟩)]:=OffB.new (fun q hq=>L0.at_.lt hq) _ _
 have hs2:Below (w.alloc (.cells #[.pointer (some ⟨g,0,none⟩)] 22)).heap.size (w.alloc (.cells #[.pointer (some ⟨g,0,none⟩)] 22)) ((w.alloc (.cells #[.pointer (some ⟨g,0,none⟩)] 22)).alloc (.cells #[.int .u32 sup] 38)):=(Below.refl _ _).alloc (Nat.le_refl _) _
 have L2:=L1.after hs2
 have hb2:=below_top hb1 hs2
 have K2:OffB p ((w.alloc (.cells #[.pointer (some ⟨g,0,none⟩)] 22)).alloc (.cells #[.int .u32 sup] 38)) (w.alloc (.cells #[.pointer (some ⟨g,0,none⟩)] 22)).heap.size 38 #[.int .u32 sup]:=OffB.new (fun q hq=>L1.at_.lt hq) _ _
 have K1:=K1.below hs2
 have hs3:Below ((w.alloc (.cells #[.pointer (some ⟨g,0,none⟩)] 22)).alloc (.cells #[.int .u32 sup] 38)).heap.size ((w.alloc (.cells #[.pointer (some ⟨g,0,none⟩)] 22)).alloc (.cells #[.int .u32 sup] 38)) (((w.alloc (.cells #[.pointer (some ⟨g,0,none⟩)] 22)).alloc (.cells #[.int .u32 sup] 38)).alloc (.cells #[.string (txS t)] 9)):=(Below.refl _ _).alloc (Nat.le_refl _) _
 have L3:=L2.after hs3
 have hb3:=below_top hb2 hs3
 have K3:OffB p (((w.alloc (.cells #[.pointer (some ⟨g,0,none⟩)] 22)).alloc (.cells #[.int .u32 sup] 38)).alloc (.cells #[.string (txS t)] 9)) ((w.alloc (.cells #[.pointer (some ⟨g,0,none⟩)] 22)).alloc (.cells #[.int .u32 sup] 38)).heap.size 9 #[.string (txS t)]:=OffB.new (fun q hq=>L2.at_.lt hq) _ _
 have K1:=K1.below hs3
 have K2:=K2.below hs3
 have hs4:Below (((w.alloc (.cells #[.pointer (some ⟨g,0,none⟩)] 22)).alloc (.cells #[.int .u32 sup] 38)).alloc (.cells #[.string (txS t)] 9)).heap.size (((w.alloc (.cells #[.pointer (some ⟨g,0,none⟩)] 22)).alloc (.cells #[.int .u32 sup] 38)).alloc (.cells #[.string (txS t)] 9)) ((((w.alloc (.cells #[.pointer (some ⟨g,0,none⟩)] 22)).alloc (.cells #[.int .u32 sup] 38)).alloc (.cells #[.string (txS t)] 9)).alloc (.cells #[.slice A fs.length cap] 50)):=(Below.refl _ _).alloc (Nat.le_refl _) _
 have L4:=L3.after hs4
 have hb4:=below_top hb3 hs4
 have K4:OffB p ((((w.alloc (.cells #[.pointer (some ⟨g,0,none⟩)] 22)).alloc (.cells #[.int .u32 sup] 38)).alloc (.cells #[.string (txS t)] 9)).alloc (.cells #[.slice A fs.length cap] 50)) (((w.alloc (.cells #[.pointer (some ⟨g,0,none⟩)] 22)).alloc (.cells #[.int .u32 sup] 38)).alloc (.cells #[.string (txS t)] 9)).heap.size 50 #[.slice A fs.length cap]:=OffB.new (fun q hq=>L3.at_.lt hq) _ _
 have K1:=K1.below hs4
 have K2:=K2.below hs4
 have K3:=K3.below hs4
 have z1:(w.alloc (.cells #[.pointer (some ⟨g,0,none⟩)] 22)).heap.size=w.heap.size+1:=by simp
 have z2:((w.alloc (.cells #[.pointer (some ⟨g,0,none⟩)] 22)).alloc (.cells #[.int .u32 sup] 38)).heap.size=w.heap.size+1+1:=by simp
 have z3:(((w.alloc (.cells #[.pointer (some ⟨g,0,none⟩)] 22)).alloc (.cells #[.int .u32 sup] 38)).alloc (.cells #[.string (txS t)] 9)).heap.size=w.heap.size+1+1+1:=by simp
 rw [z1] at K2
 rw [z2] at K3
 rw [z3] at K4
 have HL4:=Lib.hid L4; have HB4:=Lib.hid hb4; have HK1:=Lib.hid K1; have HK2:=Lib.hid K2; have HK3:=Lib.hid K3; have HK4:=Lib.hid K4
 have HR4:=Lib.hid (R.below hb4)
 have HPL:=Lib.hid (show ∀ k,p.has k→k<w.heap.size from fun k hk=>L.at_.lt hk)
 have HWw:=Lib.hid (show W.heap.size≤w.heap.size from L.below.size)
 have HFM:=Lib.hid (kformat_any L4 sup hsup n f z false hlk hv hn F)
 obtain⟨hsz,hs0⟩ :∃ q:0<(txS t).size,(txS t)[0].toNat=b0:=by
  subst ht
  refine⟨by rw [txS_size]; simp,?_⟩
  show (UInt8.ofNat b0).toNat=b0
  rw [UInt8.toNat_ofNat']
  omega
 have HNM:=Lib.hid (show ∀ w1,Calls Tryz.prog 66 #[.string (txS t)] w1 (Told (.bool true) w1) from fun w1=>by
  subst ht
  have:=kisName_any b0 t0 (h8 _ (List.mem_cons_self ..)) (fun x hx=>h8 x (List.mem_cons_of_mem _ hx)) (by simp at hlen; omega) w1
  rw [hnm] at this
  exact this)
 have HFE:=Lib.hid (show ∀ i,i<fs.length→∀ w1,Calls Tryz.prog 66 #[.string (txS (fs.getD i []))] w1 (Told (.bool true) w1) from fun i hi w1=>by
  have hmem:fs.getD i []∈fs:=by rw [List.getD_eq_getElem?_getD,List.getElem?_eq_getElem hi]; exact List.getElem_mem hi
  obtain⟨y,ys,e,en⟩:=hok.name i hi
  have e8:=h8s _ hmem
  have el:=hls _ hmem
  rw [e] at e8 el ⊢
  have:=kisName_any y ys (e8 _ (List.mem_cons_self ..)) (fun x hx=>e8 x (List.mem_cons_of_mem _ hx)) (by simp at el; omega) w1
  rw [en] at this
  exact this)
 have H8:=Lib.hid h8; have H8S:=Lib.hid h8s; have HOK:=Lib.hid hok; have HI8:=Lib.hid hi8; have HSU:=Lib.hid hsup; have HLN:=Lib.hid hlen; have HLS:=Lib.hid hls; have HRR:=Lib.hid hr; have HWD:=Lib.hid hwd; have HFI:=Lib.hid hfi; have HFT:=Lib.hid hft; have HGL:=Lib.hid hgl; have HZ:=Lib.hid hz
 clear L R L0 L1 L2 L3 L4 K1 K2 K3 K4 hb0 hs1 hs2 hs3 hs4 hb4 z1 z2 z3 h8 h8s hok hi8 hsup hlen hls hr hwd hfi hft hgl ht hnm hlk hv F hz
 clear hb3
 obtain⟨nf,hnf⟩ :∃ nf,nf=fs.length:=⟨_,rfl⟩
 have HNF:=Lib.hid hnf
 rw [← hnf] at HK4 hfn hcap ⊢
 rw [← hnf] at HL4 HB4 HK1 HK2 HK3 HR4 HFM
 clear hnf
 go_enter Tryz.func24,Tryz.ntmps24
 go_upto_region 1 with fail
 generalize ((((w.alloc (.cells #[.pointer (some ⟨g,0,none⟩)] 22)).alloc (.cells #[.int .u32 sup] 38)).alloc (.cells #[.string (txS t)] 9)).alloc (.cells #[.slice A nf cap] 50))=w4 at *
 have c1:=HK1.out.blk.cell 0; have c2:=HK2.out.blk.cell 0; have c3:=HK3.out.blk.cell 0; have c4:=HK4.out.blk.cell 0
 go_wp2_with fail
 refine HFM.out.mono ?_
 rintro e w5 ⟨rfl,hb5⟩
 have HL5:=Lib.hid (HL4.out.after hb5); have HB5:=Lib.hid (below_top HB4.out hb5); have HR5:=Lib.hid (HR4.out.below hb5)
 have HK15:=Lib.hid (HK1.out.below hb5); have HK25:=Lib.hid (HK2.out.below hb5); have HK35:=Lib.hid (HK3.out.below hb5); have HK45:=Lib.hid (HK4.out.below hb5)
 clear hb5 HFM HL4 HB4 HR4 HK1 HK2 HK3 HK4 c1 c2 c3 c4
 have hb6:Below w5.heap.size w5 (w5.alloc (.cells #[.int .i64 f,.int .i64 z,.bool false] 88)):=(Below.refl _ _).alloc (Nat.le_refl _) _
 have HK56:=Lib.hid (OffB.new (fun q hq=>HL5.out.at_.lt hq) _ _:OffB p (w5.alloc (.cells #[.int .i64 f,.int .i64 z,.bool false] 88)) w5.heap.size 88 #[.int .i64 f,.int .i64 z,.bool false])
 have HL6:=Lib.hid (HL5.out.after hb6); have HB6:=Lib.hid (below_top HB5.out hb6); have HR6:=Lib.hid (HR5.out.below hb6)
 have HK16:=Lib.hid (HK15.out.below hb6); have HK26:=Lib.hid (HK25.out.below hb6); have HK36:=Lib.hid (HK35.out.below hb6); have HK46:=Lib.hid (HK45.out.below hb6)
 clear hb6 HL5 HB5 HR5 HK15 HK25 HK35 HK45
 go_upto_region 2 with fail
 generalize w5.alloc (.cells #[.int .i64 f,.int .i64 z,.bool false] 88)=w6 at *
 generalize w5.heap.size=b5 at *
 have HFL:=Lib.hid (kfields_any HL6.out sup HSU.out)
 rw [HFI.out] at HFL
 have c1:=HK16.out.blk.cell 0; have c2:=HK26.out.blk.cell 0; have c3:=HK36.out.blk.cell 0; have c4:=HK46.out.blk.cell 0
 go_wp2_with fail
 refine HFL.out.mono ?_
 rintro e w7 ⟨A2,k2,rfl,hb7,hown⟩
 have HIN7:=Lib.hid (cel_own5 hown)
 have HD7:=Lib.hid (show DfAt W w w7 p g h w.heap.size (w.heap.size+1) (w.heap.size+1+1) (w.heap.size+1+1+1) b5 sup t A nf cap fs A2 inh f z from⟨HL6.out.after hb7,below_top HB6.out hb7,HR6.out.below hb7,HIN7.out,HK16.out.below hb7,HK26.out.below hb7,HK36.out.below hb7,HK46.out.below hb7,HK56.out.below hb7⟩)
 clear hb7 hown HFL HL6 HB6 HR6 HIN7 HK16 HK26 HK36 HK46 HK56 c1 c2 c3 c4
 have c1:=HD7.out.k1.blk.cell 0; have c3:=HD7.out.k3.blk.cell 0
 go_wp2_with fail
 refine (HNM.out w7).mono ?_
 rintro e w8 ⟨rfl,hb8⟩
 have HD8:=Lib.hid (HD7.out.after hb8)
 clear hb8 HNM HD7 c1 c3
 have HG8:=Lib.hid (kglobal_any HD8.out.live t H8.out)
 rw [HGL.out,show ((0:Nat):Int)=0 from rfl] at HG8
 have c1:=HD8.out.k1.blk.cell 0; have c3:=HD8.out.k3.blk.cell 0
 have q1:decide ((b0:Int)<65)=false:=by simp; omega
 have q2:decide ((b0:Int)>90)=false:=by simp; omega
 go_wp2_with fail
 refine HG8.out.mono ?_
 rintro e w9 ⟨rfl,hb9⟩
 have HD9:=Lib.hid (HD8.out.after hb9)
 clear hb9 HG8 HD8 c1 c3
 have c4:=HD9.out.k4.blk.cell 0
 go_wp2_with fail
 clear c4
 go_loopw [61] (fun iv wr=>∃ i:Nat,iv = .int .i64 i∧i≤nf∧DfAt W w wr p g h w.heap.size (w.heap.size+1) (w.heap.size+1+1) (w.heap.size+1+1+1) b5 sup t A nf cap fs A2 inh f z) (fun iv _=>nf-(intOf iv).toNat)
 case atStart=>exact⟨0,rfl,Nat.zero_le _,HD9.out⟩
 case round=>
  clear HD9 hsz hs0 q1 q2
  obtain⟨i,rfl,hi,D⟩:=hrel
  by_cases hin:i<nf
  ·have hd:decide ((i:Int)<(nf:Int))=true:=by simp; omega
   have hif:i<fs.length:=by rw [← HNF.out]; exact hin
   obtain⟨ad,hA,-,-,hcell⟩:=D.row.at_ i hif
   have hmem:fs.getD i []∈fs:=by rw [List.getD_eq_getElem?_getD,List.getElem?_eq_getElem hif]; exact List.getElem_mem hif
   have HE:=Lib.hid (HFE.out i hif)
   have hlt:(fs.take i).length=i:=by rw [List.length_take]; omega
   have HC1:=Lib.hid (fun (wx:World) (hb:Below wr.heap.size wr wx)=>kcontT_any A cap (fs.take i) (fs.getD i []) wx (by omega) ((D.row.cel.below hb).take i) (fun t ht=>H8S.out t (List.mem_of_mem_take ht)) (H8S.out _ hmem))
   rw [hlt,decide_eq_false (HOK.out.new i hif)] at HC1
   have HC2:=Lib.hid (fun (wx:World) (hb:Below wr.heap.size wr wx)=>kcontT_any A2 k2 inh (fs.getD i []) wx (by omega) (D.inh.below hb) HI8.out (H8S.out _ hmem))
   rw [decide_eq_false (HOK.out.other i hif)] at HC2
   have HD:=Lib.hid D
   have hic:i≤cap:=by omega
   subst hA
   clear D hmem hlt hif
   generalize fs.getD i []=y at *
   generalize inh.length=ni at *
   go_wp2_with fail
   refine (HE.out wr).mono ?_
   rintro e w10 ⟨rfl,hb10⟩
   have HD10:=Lib.hid (HD.out.after hb10)
   have HC1x:=Lib.hid (HC1.out w10 hb10)
   have HC2x:=Lib.hid (HC2.out w10 hb10)
   have c4:=HD10.out.k4.blk.cell 0
   clear hb10 HC1 HC2 HD HE hcell
   go_wp2_with fail
   refine HC1x.out.mono ?_
   rintro e w11 ⟨rfl,rfl⟩
   go_wp2_with fail
   refine HC2x.out.mono ?_
   rintro e w11 ⟨rfl,rfl⟩
   go_wp2_with fail
   go_roundw
   case rel=>exact⟨i+1,by go_num,by omega,HD10.out⟩
   case measure=>simp [intOf]; omega
  ·obtain rfl:i=nf:=by omega
   have hd:decide ((i:Int)<(i:Int))=false:=by simp
   obtain⟨n',hn'⟩ :∃ n',n'=z+i:=⟨_,rfl⟩
   have hzi:(z:Int)+(i:Int)=(n':Int):=by omega
   have hz5:=HZ.out
   rw [← HNF.out,← hn'] at hz5
   have HFT2:=Lib.hid (fun w1=>kfitsF_any w1 (f:Int) n' x)
   rw [show fitsK (f:Int) n' x=true from by have:=HFT.out; rw [← HNF.out,← hn'] at this; exact this] at HFT2
   have hn5:n'≤255:=hz5.2
   have HN5:=Lib.hid hn'; have HF4:=Lib.hid hz5.1
   have HD:=Lib.hid D
   have hb20:Below wr.heap.size wr (wr.alloc (.cells #[.int .i64 f,.int .i64 n',.bool x] 88)):=(Below.refl _ _).alloc (Nat.le_refl _) _
   have HKF:=Lib.hid (OffB.new (fun q hq=>D.live.at_.lt hq) _ _:OffB p (wr.alloc (.cells #[.int .i64 f,.int .i64 n',.bool x] 88)) wr.heap.size 88 #[.int .i64 f,.int .i64 n',.bool x])
   have HD20:=Lib.hid (D.after hb20)
   have c4:=D.k4.blk.cell 0; have c50:=D.k5.blk.cell 0; have c51:=D.k5.blk.cell 1; have c52:=D.k5.blk.cell 2
   clear hn' hz5 D hb20 HFT HZ
   go_upto_region 16 with fail
   generalize wr.alloc (.cells #[.int .i64 f,.int .i64 n',.bool x] 88)=w20 at *
   generalize wr.heap.size=bf at *
   clear c4 c50 c51 c52
   have c50:=HD20.out.k5.blk.cell 0; have c51:=HD20.out.k5.blk.cell 1; have c52:=HD20.out.k5.blk.cell 2
   have f0:=HKF.out.blk.cell 0; have f1:=HKF.out.blk.cell 1; have f2:=HKF.out.blk.cell 2
   go_wp2_with fail
   refine (HFT2.out w20).mono ?_
   rintro e w21 ⟨rfl,hb21⟩
   have HD21:=Lib.hid (HD20.out.after hb21); have HKF21:=Lib.hid (HKF.out.below hb21)
   clear hb21 HFT2 HD20 HKF HD c50 c51 c52 f0 f1 f2 hzi
   have c52:=HD21.out.k5.blk.cell 2
   have hb22:Below w21.heap.size w21 (w21.alloc (.cells #[.int .u32 0] 38)):=(Below.refl _ _).alloc (Nat.le_refl _) _
   have HK6:=Lib.hid (OffB.new (fun q hq=>HD21.out.live.at_.lt hq) _ _:OffB p (w21.alloc (.cells #[.int .u32 0] 38)) w21.heap.size 38 #[.int .u32 0])
   have HD22:=Lib.hid (HD21.out.after hb22); have HKF22:=Lib.hid (HKF21.out.below hb22)
   have HB6:=Lib.hid (show w.heap.size≤w21.heap.size∧w21.heap.size<(w21.alloc (.cells #[.int .u32 0] 38)).heap.size from⟨HD21.out.below.size,by simp⟩)
   clear hb22 HKF21
   go_upto_region 20 with fail
   generalize w21.alloc (.cells #[.int .u32 0] 38)=w22 at *
   generalize w21.heap.size=b6 at *
   clear c52 HD21
   have HUN:=Lib.hid (kundoD_any HD22.out.live w.heap.size (w.heap.size+1) (w.heap.size+1+1) (w.heap.size+1+1+1) bf b6 b6 HB6.out.2 (DefR h sup t fs (smN wd) b6) (fun w1 hb=>kdefC_any (HD22.out.live.after hb) w.heap.size (w.heap.size+1) (w.heap.size+1+1) (w.heap.size+1+1+1) bf b6 sup HSU.out t H8.out (Nat.le_of_lt HLN.out) A cap fs (HD22.out.row.below hb) H8S.out (fun t ht=>Nat.le_of_lt (HLS.out t ht)) (by rw [← HNF.out]; exact hfn) f n' wd x HF4.out (by omega) (by rw [HWD.out,HN5.out,← HNF.out]) 0
    ⟨HD22.out.k1.below hb,HD22.out.k2.below hb,HD22.out.k3.below hb,by rw [← HNF.out]; exact HD22.out.k4.below hb,HKF22.out.below hb,HK6.out.below hb⟩ (by have:=HB6.out.1; have:=HWw.out; omega)))
   have c1:=HD22.out.k1.blk.cell 0
   go_wp2_with fail
   refine HUN.out.mono ?_
   rintro e w23 ⟨E,h',p',rfl,L6,s6,hne,h1,w1,hR,hz⟩
   have hE:E=0:=hR.1.trans HRR.out
   obtain⟨e1,e2⟩:=hz hE
   subst e1 e2
   have HS6:=Lib.hid (s6.step HD22.out.below HPL.out HB6.out.1)
   have HL6:=Lib.hid (show Live W w1 p' g (h.defK sup t fs (smN wd)).1 from by rw [← hR.2.1]; exact L6)
   have f6:=hR.2.2.cell 0
   subst hE
   clear L6 s6 hne hR hz HUN c1
   generalize (h.defK sup t fs (smN wd)).2.1=oc at *
   go_wp2_with fail
   go_ret2
   exact⟨p',rfl,HL6.out,HS6.out⟩
end
end
section
open Go.RowKit
attribute [local go_sem] Oper.semAt_some
section
variable {W w:World} {p:HP} {g:Nat} {h:HM} (L:Live W w p g h)
include L
theorem kshowS_any (o:Nat) (ho:o<4294967296) (h1:o%2=1) (d:Int):Calls Tryz.prog 80 #[.pointer (some ⟨g,0,none⟩),.int .u32 o,.int .i64 d] w (Told (.string ⟨(Lib.itoa (smallV o)).toArray⟩) w):=by
 have hb1:Below w.heap.size w (w.alloc (.cells #[.pointer (some ⟨g,0,none⟩)] 22)):=(Below.refl _ _).alloc (Nat.le_refl _) _
 have HB1:=Lib.hid hb1
 have HKD:=Lib.hid (fun w1=>kind_any o ho w1)
 rw [show kindM o=1 by unfold kindM; rw [if_neg (by omega),if_pos h1]] at HKD
 have HVA:=Lib.hid (fun w1=>Value_any o ho h1 w1)
 have HIT:=Lib.hid (itoa_any (smallV o) (by have:=smallV_lo o ho; omega) (by have:=smallV_hi o ho; omega) _ (L.after hb1).envw.pow)
 clear L hb1
 generalize smallV o=v at *
 go_enter Tryz.func80,Tryz.ntmps80
 go_upto_region 1 with fail
 generalize w.alloc (.cells #[.pointer (some ⟨g,0,none⟩)] 22)=w1 at *
 go_wp2_with fail
 refine (HKD.out w1).mono ?_
 rintro e w2 ⟨rfl,rfl⟩
 go_wp2_with fail
 refine (HVA.out w1).mono ?_
 rintro e w2 ⟨rfl,rfl⟩
 go_wp2_with fail
 refine HIT.out.mono ?_
 rintro e w2 ⟨rfl,hb2⟩
 have HB2:=Lib.hid (below_top HB1.out hb2)
 clear hb2 HIT
 go_wp2_with fail
 go_ret
 exact⟨rfl,HB2.out⟩
theorem kShow_any (o:Nat) (s:ByteArray) (hb:h.bareK=false) (HS:∀ w1,Below w.heap.size w w1→Calls Tryz.prog 80 #[.pointer (some ⟨g,0,none⟩),.int .u32 o,.int .i64 0] w1 (Told (.string s) w1)):
 Calls Tryz.prog 27 #[.pointer (some ⟨g,0,none⟩),.int .u32 o] w (Told (.string s) w):=by
 have HBR:=Lib.hid (kbare_any L)
 rw [hb] at HBR
 have HSH:=Lib.hid HS
 clear L HS hb
 go_enter Tryz.func27,Tryz.ntmps27
 go_wp2_with fail
 refine HBR.out.mono ?_
 rintro e w1 ⟨rfl,hb1⟩
 have HS1:=Lib.hid (HSH.out w1 hb1)
 have HB1:=Lib.hid hb1
 clear hb1 HBR HSH
 go_wp2_with fail
 refine HS1.out.mono ?_
 rintro e w2 ⟨rfl,hb2⟩
 have HB2:=Lib.hid (below_top HB1.out hb2)
 clear hb2 HS1 HB1
 go_wp2_with fail
 go_ret
 exact⟨rfl,HB2.out⟩
end
theorem below_drewN5 {B:Nat} {a w:World} (h:Below B a w) (n:Nat):Below B a (w.drewN n):=⟨h.os,h.tape,h.output,h.size,h.block⟩
theorem sameT_any (A B:Option Addr) (c d:Nat) (ts:List (List Nat)) (w:World) (h8:∀ t∈ts,∀ y∈t,y<256) (hn:ts.length≤1000) (ha:CelT w A ts) (hb:CelT w B ts):
 Calls Tryz.prog 26 #[.slice A ts.length c,.slice B ts.length d] w (Told (.bool true) w):=by
 have HA:=Lib.hid ha; have HBb:=Lib.hid hb; have H8:=Lib.hid h8
 clear ha hb h8
 obtain⟨n,hnn⟩ :∃ n,n=ts.length:=⟨_,rfl⟩
 rw [← hnn] at hn ⊢
 have HN:=Lib.hid hnn
 clear hnn
 go_enter Tryz.func26,Tryz.ntmps26
 go_wp2_with fail
 go_loopw [5] (fun iv wr=>∃ k:Nat,k≤n∧iv = .int .i64 k∧Below w.heap.size w wr) (fun iv _=>n-(intOf iv).toNat)
 case atStart=>exact⟨0,Nat.zero_le _,rfl,Below.refl _ _⟩
 case round=>
  obtain⟨k,hk,rfl,hbr⟩:=hrel
  have HB:=Lib.hid hbr
  by_cases hkn:k<n
  ·have hd:decide ((k:Int)<(n:Int))=true:=by simp; omega
   have hkt:k<ts.length:=by rw [← HN.out]; exact hkn
   obtain⟨ad,hA,hca⟩:=(HA.out.below hbr).at_ k hkt
   obtain⟨bd,hB,hcb⟩:=(HBb.out.below hbr).at_ k hkt
   subst hA hB
   generalize ts.getD k []=t at *
   have hca2:wr.drew.cell? (ad.add k)=some (.string (txS t)):=hca
   have hcb2:wr.drew.cell? (bd.add k)=some (.string (txS t)):=hcb
   have HBd:=Lib.hid hbr
   clear hbr hkt HB
   go_upto_region 6 with fail
   go_quiet (fail)
   go_wp2_with fail
   go_roundw
   case rel=>exact⟨k+1,by omega,by go_num,below_drewN5 HBd.out nq⟩
   case measure=>simp [intOf]; omega
  ·obtain rfl:k=n:=by omega
   have hd:decide ((k:Int)<(k:Int))=false:=by simp
   clear hbr
   go_wp2_with fail
   go_ret
   exact⟨rfl,HB.out⟩
end
end Go.Proofs.YtdoahpflemgaeaaGreatDoor
