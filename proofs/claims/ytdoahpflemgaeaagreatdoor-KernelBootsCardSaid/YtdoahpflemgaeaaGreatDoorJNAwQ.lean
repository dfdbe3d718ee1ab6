import Derived.Test.YtdoahpflemgaeaaGreatDoorJNAwK
import Derived.Test.YtdoahpflemgaeaaGreatDoorJNEv1
set_option linter.unusedVariables false
set_option linter.unusedSimpArgs false
namespace Go.Proofs.YtdoahpflemgaeaaGreatDoor
section
open Go.RowKit
attribute [local go_sem] Oper.semAt_some
structure AwOk (a b:HM):Prop where
 boot:bootK 4096=(a,0)
 r10:a.rt 10=412
 r31:a.rt 31=1168
 look:a.lookK 412=0
 fmt:a.fldK 412 4=2*1+1
 glo:a.gloK tPoint=0
 flds:a.fieldsK 412=([],0)
 def_:a.defK 412 tPoint fXY (smN 17)=(b,2336,0)
 flds2:b.fieldsK 2336=(fXY,0)
 isB:b.isB 2336=true
 isC:b.isClsK 2336=true
 bare:b.bareK=false
 ptrs:b.ptrsK 2336 6=true
 n0:2336≠b.rt 0
 n1:2336≠b.rt 1
 n2:2336≠b.rt 2
 ncl:∀ k:Nat,k=18∨k=19∨k=20∨k=23→(b.hdO 2336).cls≠b.rt k
 name:b.bytesE (b.fldK 2336 0)=0
 body:b.bodyK (b.fldK 2336 0)=tPoint
theorem awOk:∃ a b,AwOk a b:=⟨ck_own22,ck_def,boot4096,aw_rt.1,aw_rt.2,aw_look.1,aw_look.2,aw_glo,aw_flds,aw_def,aw_flds2,aw_cls.1,aw_cls.2.1,aw_cls.2.2.1,aw_cls.2.2.2,aw_roots.1,aw_roots.2.1,aw_roots.2.2,fun k hk=>by
 rcases hk with rfl | rfl | rfl | rfl
 ·exact aw_meta.1
 ·exact aw_meta.2.1
 ·exact aw_meta.2.2.1
 ·exact aw_meta.2.2.2,aw_name.1,aw_name.2⟩
theorem tPoint_s:txS tPoint=⟨#[80,111,105,110,116]⟩:=rfl
theorem fXY_ok:FldsOk fXY []:=⟨fun i hi=>by
 rcases (by have:fXY.length=2:=rfl; omega:i=0∨i=1) with rfl | rfl
 ·exact ⟨120,[],rfl,rfl⟩
 ·exact ⟨121,[],rfl,rfl⟩,fun i hi=>by
 rcases (by have:fXY.length=2:=rfl; omega:i=0∨i=1) with rfl | rfl <;> decide,fun i hi=>by
 rcases (by have:fXY.length=2:=rfl; omega:i=0∨i=1) with rfl | rfl <;> decide⟩
theorem fXY_8:∀ t∈fXY,∀ x∈t,x<256:=by decide
theorem fXY_l:∀ t∈fXY,t.length<9223372036854775807:=by decide
theorem tPoint_8:∀ x∈tPoint,x<256:=by decide
theorem fXY_fmt:FmtOk 1 1 0 false:=⟨rfl,rfl,rfl,rfl,rfl⟩
theorem fXY_row {p:HP} {w:World} (hp:∀ q,p.has q→q<w.heap.size):RowT p (w.alloc (.cells #[.string ⟨#[120]⟩,.string ⟨#[121]⟩] 9)) (some ⟨w.heap.size,0,none⟩) fXY:=⟨fun i hi=>by
 refine⟨_,rfl,by simp,fun q=>by have:=hp _ q; simp at this,?_⟩
 rw [WideShapes.add_plain,Nat.zero_add]
 have k:=Blk.new w 9 #[.string ⟨#[120]⟩,.string ⟨#[121]⟩]
 rcases (by have:fXY.length=2:=rfl; omega:i=0∨i=1) with rfl | rfl
 ·exact k.cell 0
 ·exact k.cell 1⟩
theorem itoa3:(Lib.itoa (smallV 7)).toArray=#[51]:=by decide +kernel
set_option maxRecDepth 100000 in
set_option maxHeartbeats 8000000 in
theorem awake_any (w:World) (E:Env w):Calls Tryz.prog 7 #[] w (Told (.bool true) w):=by
 obtain⟨H0,H1,Q⟩:=awOk
 have HQ:=Lib.hid Q
 have HK:=Lib.hid (kboot_any 4096 (by omega) (by omega) w E)
 have HN:=Lib.hid (fun w'=>num4_any 0 (by omega) w')
 clear Q E
 go_enter Tryz.func7,Tryz.ntmps7
 go_wp2_with fail
 refine HK.out.mono ?_
 intro e w1 HK1
 have HB1:=Lib.hid HK1.1
 obtain⟨p,g,rfl,L⟩:=ite_yes HK1 (congrArg Prod.snd HQ.out.boot)
 have HL1:=Lib.hid (show Live w w1 p g H0 from by rw [HQ.out.boot] at L; exact L)
 clear HK HK1 L
 have HR10:=Lib.hid (HL1.out.root (10:Nat))
 rw [rootN_rt H0 (i:=10) (by omega),HQ.out.r10,show rootE ((10:Nat):Int)=0 from rfl] at HR10
 have HR31:=Lib.hid (HL1.out.root (31:Nat))
 rw [rootN_rt H0 (i:=31) (by omega),HQ.out.r31,show rootE ((31:Nat):Int)=0 from rfl] at HR31
 go_wp2_with fail
 refine (HN.out w1).mono ?_
 rintro e w2 ⟨rfl,rfl⟩
 go_wp2_with fail
 refine HR10.out.mono ?_
 rintro e w2 ⟨rfl,rfl⟩
 go_wp2_with fail
 refine HR31.out.mono ?_
 rintro e w2 ⟨rfl,rfl⟩
 have hb2:Below w1.heap.size w1 (w1.alloc (.cells #[.string ⟨#[120]⟩,.string ⟨#[121]⟩] 9)):=(Below.refl _ _).alloc (Nat.le_refl _) _
 have HR2:=Lib.hid (fXY_row (p:=p) (w:=w1) (fun q hq=>HL1.out.at_.lt hq))
 have HL2:=Lib.hid (HL1.out.after hb2); have HB2:=Lib.hid (below_top HB1.out hb2)
 clear hb2 HL1 HB1 HR10 HR31
 have HD:=Lib.hid (kDefine_ok HL2.out 412 (by omega) 80 [111,105,110,116] tPoint rfl tPoint_8 (by decide) rfl (by omega) (by omega) HQ.out.glo (some ⟨w1.heap.size,0,none⟩) 2 fXY [] HR2.out fXY_8 fXY_l (by decide) (by decide) fXY_ok HQ.out.look 1 1 0 HQ.out.fmt (by omega) fXY_fmt HQ.out.flds (fun t ht=>by cases ht) (by simp) false rfl 17 rfl (by rw [HQ.out.def_]))
 rw [HQ.out.def_,tPoint_s] at HD
 simp only at HD
 rw [show fXY.length=2 from rfl,show ((412:Nat):Int)=412 from rfl,show ((1:Nat):Int)=1 from rfl,show ((2336:Nat):Int)=2336 from rfl] at HD
 go_upto_region 6 with fail
 go_wp2_with fail
 refine HD.out.mono ?_
 rintro e w3 ⟨p3,rfl,L3,s3⟩
 have HL3:=Lib.hid L3
 have HB3:=Lib.hid (L3.below)
 have HF:=Lib.hid (kfields_any L3 2336 (by omega))
 rw [HQ.out.flds2,show ((2336:Nat):Int)=2336 from rfl] at HF
 clear L3 s3 HD HL2 HB2 HR2
 go_wp2_with fail
 refine HF.out.mono ?_
 rintro e w4 ⟨A4,c4,rfl,hb4,hown4⟩
 have HC4:=Lib.hid (cel_own5 hown4)
 have HL4:=Lib.hid (HL3.out.after hb4); have HB4:=Lib.hid (below_top HB3.out hb4)
 clear hb4 hown4 HF HL3 HB3
 rw [show fXY.length=2 from rfl]
 go_wp2_with fail
 refine (HN.out w4).mono ?_
 rintro e w5 ⟨rfl,rfl⟩
 go_wp2_with fail
 refine (HN.out w4).mono ?_
 rintro e w5 ⟨rfl,rfl⟩
 have hb5:Below w4.heap.size w4 (w4.alloc (.cells #[.string ⟨#[120]⟩,.string ⟨#[121]⟩] 9)):=(Below.refl _ _).alloc (Nat.le_refl _) _
 have HT5:=Lib.hid (sameT_any A4 (some ⟨w4.heap.size,0,none⟩) c4 2 fXY _ fXY_8 (by decide) (HC4.out.below hb5) (fXY_row (p:=p3) (w:=w4) (fun q hq=>HL4.out.at_.lt hq)).cel)
 rw [show fXY.length=2 from rfl] at HT5
 have HL5:=Lib.hid (HL4.out.after hb5)
 clear hb5 HL4 HB4 HC4
 go_wp2_with fail
 refine HT5.out.mono ?_
 rintro e w6 ⟨rfl,hb6⟩
 have HL6:=Lib.hid (HL5.out.after hb6)
 clear hb6 HT5 HL5
 have HS6:=Lib.hid (kShow_any HL6.out 2336 _ HQ.out.bare (fun w1 hb=>kshowK_any (HL6.out.after hb) 2336 (by omega) (by decide) HQ.out.isB HQ.out.n0 HQ.out.n1 HQ.out.n2 HQ.out.ncl HQ.out.isC HQ.out.bare HQ.out.ptrs HQ.out.name 0))
 rw [HQ.out.body,tPoint_s,show ((2336:Nat):Int)=2336 from rfl] at HS6
 go_wp2_with fail
 refine HS6.out.mono ?_
 rintro e w7 ⟨rfl,hb7⟩
 have HL7:=Lib.hid (HL6.out.after hb7)
 clear hb7 HS6 HL6
 have HS7:=Lib.hid (kShow_any HL7.out 7 _ HQ.out.bare (fun w1 hb=>kshowS_any (HL7.out.after hb) 7 (by omega) (by omega) 0))
 rw [itoa3,show ((7:Nat):Int)=7 from rfl] at HS7
 go_wp2_with fail
 refine HS7.out.mono ?_
 rintro e w8 ⟨rfl,hb8⟩
 have HL8:=Lib.hid (HL7.out.after hb8)
 clear hb8 HS7 HL7
 go_wp2_with fail
 go_ret
 exact⟨rfl,HL8.out.below⟩
theorem kernelBoots_any (W:World) (E:Env W) (size:Int):Calls Tryz.prog 3 #[.int .i64 size] W (Told (.bool true) W):=
 kernelBoots_if W E (fun w' hb=>awake_any w' (E.below hb)) size
theorem kernelBootsW_any (W:World) (E:Env W) (size:Int) (hs:(Lit.int .i64 size).wf=true):Calls Tryz.prog 3 #[.int .i64 size] W (Told (.bool true) W):=kernelBoots_any W E size
end
end Go.Proofs.YtdoahpflemgaeaaGreatDoor
