import Derived.Test.YtlkahgagmfhdaaaGreatDoorQSo13
import Derived.Test.YtlkahgagmfhdaaaGreatDoorQAll
import Derived.Test.YtlkahgagmfhdaaaGreatDoorQHdF
import Derived.Test.YtlkahgagmfhdaaaGreatDoorQUntil
import Derived.IntWalk
set_option linter.unusedVariables false
set_option linter.unusedSimpArgs false
set_option linter.unusedSectionVars false
namespace Go.Proofs.YtlkahgagmfhdaaaGreatDoor
section
open Go.RowKit Go.Sort Go.Proofs
theorem calleesO:CalleesO:=⟨sO_insertionSort,sO_breakPatterns,sO_choosePivot,sO_partialInsertionSort,sO_partitionEqualOrdered,sO_partitionOrdered⟩
theorem plainO:Plain13:=⟨swo_ltInt,insertionSort_holds,partialInsertionSort_holds,partition_holds _,partitionEqual_holds _,pdq_sorts _⟩
theorem pdqWalkO_all:pdqWalkO:=fun blk off cap a b limit d w hH hb hab hbd hsz hl hB=>
 sO_pdqsort calleesO plainO (b-a+1) blk off cap a b limit d w (by omega) hH hb hab hbd hsz hl hB
def intsU (xs:List Nat):List Int:=xs.map fun x:Nat=>(x:Int)
theorem intsU_len (xs:List Nat):(intsU xs).length=xs.length:=by simp [intsU]
theorem u32s_ints (xs:List Nat):u32s xs=(intsU xs).map (Value.int .u32):=by unfold u32s intsU; rw [List.map_map]; rfl
theorem row_holds {w:World} {g c:Nat} {xs:List Nat} (h:Row w g 54 c (u32s xs)):Holds (Value.int .u32) w g 0 (intsU xs).toArray:=by
 intro j hj
 have hj':j<xs.length:=by simpa [intsU] using hj
 refine⟨?_,h.frozen _⟩
 rw [Nat.zero_add,h.cell (u32s_get hj')]
 simp [intsU,hj']
def SortedO (g c:Nat) (xs:List Nat) (w:World) (e:Ending) (w':World):Prop:=
 e = .returned (.tuple #[])∧∃ ys:List Nat,ys.Perm xs∧ys.Pairwise (· ≤ ·)∧Row w' g 54 c (u32s ys)∧Frb g w w'
theorem sort_ints (xs:List Nat):∃ ys:List Nat,intsU ys=(intsU xs).mergeSort (fun x y=>decide (x≤y))∧ys.Perm xs∧ys.Pairwise (· ≤ ·):=by
 have hp:((intsU xs).mergeSort (fun x y=>decide (x≤y))).Perm (intsU xs):=List.mergeSort_perm _ _
 have hnn:∀ z∈(intsU xs).mergeSort (fun x y=>decide (x≤y)),0≤z:=fun z hz=>by
  have:=hp.mem_iff.1 hz
  unfold intsU at this
  obtain⟨y,_,rfl⟩:=List.mem_map.1 this
  omega
 have hs:((intsU xs).mergeSort (fun x y=>decide (x≤y))).Pairwise (fun x y=>decide (x≤y)=true):=List.pairwise_mergeSort (fun a b c h1 h2=>by simp at *; omega) (fun a b=>by simp; omega) _
 generalize (intsU xs).mergeSort (fun x y=>decide (x≤y))=zs at *
 have e1:intsU (zs.map Int.toNat)=zs:=by
  unfold intsU
  rw [List.map_map]
  conv=>rhs; rw [← List.map_id zs]
  refine List.map_congr_left (fun z hz=>?_)
  have:=hnn z hz
  show ((z.toNat:Nat):Int)=z
  omega
 refine⟨zs.map Int.toNat,e1,?_,?_⟩
 ·have:=hp.map Int.toNat
  have e2:(intsU xs).map Int.toNat=xs:=by
   unfold intsU
   rw [List.map_map]
   conv=>rhs; rw [← List.map_id xs]
   exact List.map_congr_left (fun z _=>by simp)
  rw [e2] at this
  exact this
 ·rw [List.pairwise_map]
  refine hs.imp_of_mem (fun {a b} ha hb h=>?_)
  have h1:=hnn a ha
  have h2:=hnn b hb
  have:a≤b:=by simpa using h
  omega
theorem heap_sortedU {w:World} {g n:Nat} {os:Array Obj} {cur:Array Value} {e:TypeId} {fr:Nat × Nat} (d:Array Int) (hb:w.heap[g]? = some (.cells cur e fr)):
 (grow (putRow (Value.int .u32) (Sort.ahead w n) g 0 d) os).heap[g]? = some (.cells (putCells (Value.int .u32) 0 d cur) e fr):=by
 have hg:g<w.heap.size:=(Array.getElem?_eq_some_iff.1 hb).1
 rw [heap_grow_old _ _ (by simpa using hg)]
 simp [putRow,mapBlock,Sort.ahead,Array.getElem?_modify,hb,onCells]
theorem frb_sortedU {w:World} {g n:Nat} {os:Array Obj} (d:Array Int):Frb g w (grow (putRow (Value.int .u32) (Sort.ahead w n) g 0 d) os):=by
 refine⟨rfl,rfl,rfl,by simp,fun k hk hne=>?_⟩
 rw [heap_grow_old _ _ (by simpa using hk)]
 have:g≠k:=fun e=>hne e.symm
 simp [putRow,mapBlock,Sort.ahead,Array.getElem?_modify,this]
theorem take_putCellsU (cur:Array Value) (ts:List Int) (h:ts.length≤cur.size):(putCells (Value.int .u32) 0 ts.toArray cur).toList.take ts.length=ts.map (Value.int .u32):=by
 apply List.ext_getElem?
 intro j
 by_cases hj:j<ts.length
 ·rw [List.getElem?_take_of_lt hj,Array.getElem?_toList]
  simp [putCells,hj,show j<cur.size by omega]
 ·rw [List.getElem?_take_eq_none (by omega),List.getElem?_eq_none (by simp; omega)]
theorem sort_any {w:World} {g c:Nat} {xs:List Nat} (hR:Row w g 54 c (u32s xs)) (hn:xs.length<4611686018427387904):
 Calls Tryz.prog 220 #[.slice (some ⟨g,0,none⟩) xs.length c] w (SortedO g c xs w):=by
 have h:=sO_Sort pdqWalkO_all g 0 c (intsU xs).toArray w (row_holds hR) hR.lt (by simpa [intsU] using hn)
 have e:(intsU xs).toArray.size=xs.length:=by simp [intsU]
 rw [e] at h
 refine h.mono ?_
 rintro e w' ⟨rfl,n,os,rfl⟩
 obtain⟨ys,h1,h2,h3⟩:=sort_ints xs
 have hs:Sort.sort ltInt (intsU xs).toArray=(intsU ys).toArray:=by
  rw [h1,← sortInt (intsU xs)]
 rw [hs]
 refine⟨rfl,ys,h2,h3,?_,frb_sortedU _⟩
 obtain⟨cur,hb,hl,hm,hc,hx⟩:=hR
 have hly:ys.length=xs.length:=h2.length_eq
 rw [u32s_len] at hl hx
 refine⟨_,heap_sortedU _ hb,by rw [u32s_len,hly]; exact hl,hm,by simp [putCells,hc],?_⟩
 have ht:=take_putCellsU cur (intsU ys) (by rw [intsU_len,hly]; have:cur.size=c:=(by simpa using hc); omega)
 rw [intsU_len] at ht
 rw [u32s_len,u32s_ints]
 first | exact ht | (rw [Nat.mul_one]; exact ht)
end
section
open Go.RowKit
attribute [local go_sem] Oper.semAt_some
def OopsP (xs:List Nat) (w:World) (e:Ending) (w':World):Prop:=
 ∃ v,e = .returned v∧w'.ownsRow w.heap.size 54 1 v xs.length (u32s xs)∧Below w.heap.size w w'
section
variable {w:World} {p:HP} {h:HM} {l:List Ob}
theorem walkM_only (nm:Nat→List Nat) (fr:List Nat):walkM nm (fr.filter k2)=walkM nm fr:=by unfold walkM; rw [putsW_filter]
theorem row_own {w:World} {g c B:Nat} {xs:List Nat} (h:Row w g 54 c (u32s xs)) (hB:B≤g):w.ownsRow B 54 1 (.slice (some ⟨g,0,none⟩) xs.length c) xs.length (u32s xs):=by
 obtain⟨cur,hb,hl,hm,hc,hx⟩:=h
 rw [u32s_len] at hl hx
 exact⟨by simp [u32s_len],.inr ⟨g,c,cur,rfl,hB,hb,hl,hm,by simpa using hc,by rw [Nat.mul_one]; exact hx⟩⟩
theorem sortV_any {w:World} {B:Nat} {v:Value} {xs:List Nat} (h:w.ownsRow B 54 1 v xs.length (u32s xs)) (hB:B≤w.heap.size) (hn:xs.length<4611686018427387904):
 Calls Tryz.prog 220 #[v] w fun e w'=>e = .returned (.tuple #[])∧∃ ys:List Nat,ys.Perm xs∧ys.Pairwise (· ≤ ·)∧w'.ownsRow B 54 1 v xs.length (u32s ys)∧Below B w w':=by
 by_cases h0:0<xs.length
 ·obtain⟨g,c,rfl,hr,_,hg⟩:=Row.of_any h h0
  refine (sort_any hr hn).mono ?_
  rintro e w' ⟨rfl,ys,h1,h2,h3,h4⟩
  have:=row_own (B:=B) h3 hg
  rw [h1.length_eq] at this
  exact⟨rfl,ys,h1,h2,this,h4.below hg hB⟩
 ·have hx:xs=[]:=List.eq_nil_of_length_eq_zero (by omega)
  subst hx
  obtain⟨A,c,rfl⟩:=own_val h
  refine (sO_Sort_int_nil A c w).mono ?_
  rintro e w' ⟨rfl,rfl⟩
  exact⟨rfl,[],List.Perm.refl _,List.Pairwise.nil,h,Below.refl _ _⟩
theorem only_isB (G:h.Good l) {fr:List Nat} (hf:∀ x∈fr,h.valB x=true):∀ x∈fr.filter k2,h.isB x=true:=by
 intro x hx
 rw [List.mem_filter] at hx
 have:=hf x hx.1
 have hk:kindM x=2:=by have:=hx.2; unfold k2 at this; simpa using this
 unfold HM.valB objB at this
 simpa [hk] using this
set_option maxRecDepth 100000 in
set_option maxHeartbeats 4000000 in
theorem live_any (H:HAt w p h) (G:h.Good l) (hs:Spares w):Calls Tryz.prog 168 #[ptr p.g] w (OopsP (liveO h l) w):=by
 have HH:=Lib.hid (fun (w':World) (hb:Below w.heap.size w w')=>H.below hb)
 have HS:=Lib.hid (fun (w':World) (hb:Below w.heap.size w w')=>hs.below hb)
 have HG:=Lib.hid G
 have HR:=Lib.hid (roots_any H G.fit)
 have HRL:=Lib.hid G.fit.roots
 have HR32:=Lib.hid G.fit.r32
 clear H G hs
 unfold ptr at HH HR ⊢
 go_enter Tryz.func168,Tryz.ntmps168
 go_wp2_with fail
 refine HR.out.mono ?_
 rintro e w1 ⟨g1,c1,rfl,h11,h12,h13⟩
 rw [u32s_len]
 have HO:=Lib.hid (only_any g1 c1 h.roots h11 (by rw [HRL.out]; omega) HR32.out)
 have HB1:=Lib.hid h13
 have HG1:=Lib.hid h12
 clear h11 h12 h13 HR
 go_wp2_with fail
 refine HO.out.mono ?_
 rintro e w2 ⟨rfl,h21,h22⟩
 have HB2:=Lib.hid (HB1.out.trans (h22.below HG1.out HB1.out.size))
 have HWK:=Lib.hid (walk_any (HH.out w2 HB2.out) HG.out (HS.out w2 HB2.out) h21 (only_isB HG.out HG.out.sound.roots) (by have:=List.length_filter_le k2 h.roots; rw [HRL.out] at this; omega))
 clear h21 h22 HO HB1 HG1
 unfold ptr at HWK
 go_wp2_with fail
 refine HWK.out.mono ?_
 rintro e w3 ⟨gt,bm,v,rfl,T,hb3⟩
 rw [walkM_only] at T
 have hln:=walk_len HG.out HG.out.sound.roots
 have HB3:=Lib.hid (below_top HB2.out hb3)
 have HOW:=Lib.hid (own_base T.own (show w.heap.size≤w2.heap.size from HB2.out.size))
 have c0:=T.box.cell 0
 rw [← metO_len] at HOW
 have HSO:=Lib.hid (sortV_any HOW.out HB3.out.size (by rw [metO_len]; omega))
 obtain⟨A,c,hv⟩:=own_val HOW.out
 subst hv
 clear T hb3 HWK HB2 HOW
 go_wp2_with fail
 refine HSO.out.mono ?_
 rintro e w4 ⟨rfl,ys,h1,h2,h3,h4⟩
 have HE:=Lib.hid (sorted_live HG.out h1 h2)
 have HL:=Lib.hid h1.length_eq
 have H3:=Lib.hid h3
 have HB4:=Lib.hid (HB3.out.trans h4)
 clear h1 h2 h3 h4 HSO
 go_wp2_with fail
 go_ret
 refine⟨_,rfl,?_,HB4.out⟩
 rw [← HE.out,HL.out]
 exact H3.out
end
end
section
open Go.RowKit Go.Sort Go.Proofs
theorem callees6:Callees6:=⟨s6_insertionSort,s6_breakPatterns,s6_choosePivot,s6_partialInsertionSort,s6_partitionEqualOrdered,s6_partitionOrdered⟩
theorem plain6:Plain13:=⟨swo_ltInt,insertionSort_holds,partialInsertionSort_holds,partition_holds _,partitionEqual_holds _,pdq_sorts _⟩
theorem pdqWalkO_all_6:pdqWalk6:=fun blk off cap a b limit d w hH hb hab hbd hsz hl hB=>
 s6_pdqsort callees6 plain6 (b-a+1) blk off cap a b limit d w (by omega) hH hb hab hbd hsz hl hB
def intsU_6 (xs:List Nat):List Int:=xs.map fun x:Nat=>(x:Int)
theorem intsU_len_6 (xs:List Nat):(intsU_6 xs).length=xs.length:=by simp [intsU_6]
theorem u64s_ints (xs:List Nat):u64s xs=(intsU_6 xs).map (Value.int .u64):=by unfold u64s intsU_6; rw [List.map_map]; rfl
theorem row_holds_6 {w:World} {g c:Nat} {xs:List Nat} (h:Row w g 47 c (u64s xs)):Holds (Value.int .u64) w g 0 (intsU_6 xs).toArray:=by
 intro j hj
 have hj':j<xs.length:=by simpa [intsU_6] using hj
 refine⟨?_,h.frozen _⟩
 rw [Nat.zero_add,h.cell (u64s_get hj')]
 simp [intsU_6,hj']
def Sorted6 (g c:Nat) (xs:List Nat) (w:World) (e:Ending) (w':World):Prop:=
 e = .returned (.tuple #[])∧∃ ys:List Nat,ys.Perm xs∧ys.Pairwise (· ≤ ·)∧Row w' g 47 c (u64s ys)∧Frb g w w'
theorem sort_ints_6 (xs:List Nat):∃ ys:List Nat,intsU_6 ys=(intsU_6 xs).mergeSort (fun x y=>decide (x≤y))∧ys.Perm xs∧ys.Pairwise (· ≤ ·):=by
 have hp:((intsU_6 xs).mergeSort (fun x y=>decide (x≤y))).Perm (intsU_6 xs):=List.mergeSort_perm _ _
 have hnn:∀ z∈(intsU_6 xs).mergeSort (fun x y=>decide (x≤y)),0≤z:=fun z hz=>by
  have:=hp.mem_iff.1 hz
  unfold intsU_6 at this
  obtain⟨y,_,rfl⟩:=List.mem_map.1 this
  omega
 have hs:((intsU_6 xs).mergeSort (fun x y=>decide (x≤y))).Pairwise (fun x y=>decide (x≤y)=true):=List.pairwise_mergeSort (fun a b c h1 h2=>by simp at *; omega) (fun a b=>by simp; omega) _
 generalize (intsU_6 xs).mergeSort (fun x y=>decide (x≤y))=zs at *
 have e1:intsU_6 (zs.map Int.toNat)=zs:=by
  unfold intsU_6
  rw [List.map_map]
  conv=>rhs; rw [← List.map_id zs]
  refine List.map_congr_left (fun z hz=>?_)
  have:=hnn z hz
  show ((z.toNat:Nat):Int)=z
  omega
 refine⟨zs.map Int.toNat,e1,?_,?_⟩
 ·have:=hp.map Int.toNat
  have e2:(intsU_6 xs).map Int.toNat=xs:=by
   unfold intsU_6
   rw [List.map_map]
   conv=>rhs; rw [← List.map_id xs]
   exact List.map_congr_left (fun z _=>by simp)
  rw [e2] at this
  exact this
 ·rw [List.pairwise_map]
  refine hs.imp_of_mem (fun {a b} ha hb h=>?_)
  have h1:=hnn a ha
  have h2:=hnn b hb
  have:a≤b:=by simpa using h
  omega
theorem heap_sortedU_6 {w:World} {g n:Nat} {os:Array Obj} {cur:Array Value} {e:TypeId} {fr:Nat × Nat} (d:Array Int) (hb:w.heap[g]? = some (.cells cur e fr)):
 (grow (putRow (Value.int .u64) (Sort.ahead w n) g 0 d) os).heap[g]? = some (.cells (putCells (Value.int .u64) 0 d cur) e fr):=by
 have hg:g<w.heap.size:=(Array.getElem?_eq_some_iff.1 hb).1
 rw [heap_grow_old _ _ (by simpa using hg)]
 simp [putRow,mapBlock,Sort.ahead,Array.getElem?_modify,hb,onCells]
theorem frb_sortedU_6 {w:World} {g n:Nat} {os:Array Obj} (d:Array Int):Frb g w (grow (putRow (Value.int .u64) (Sort.ahead w n) g 0 d) os):=by
 refine⟨rfl,rfl,rfl,by simp,fun k hk hne=>?_⟩
 rw [heap_grow_old _ _ (by simpa using hk)]
 have:g≠k:=fun e=>hne e.symm
 simp [putRow,mapBlock,Sort.ahead,Array.getElem?_modify,this]
theorem take_putCellsU_6 (cur:Array Value) (ts:List Int) (h:ts.length≤cur.size):(putCells (Value.int .u64) 0 ts.toArray cur).toList.take ts.length=ts.map (Value.int .u64):=by
 apply List.ext_getElem?
 intro j
 by_cases hj:j<ts.length
 ·rw [List.getElem?_take_of_lt hj,Array.getElem?_toList]
  simp [putCells,hj,show j<cur.size by omega]
 ·rw [List.getElem?_take_eq_none (by omega),List.getElem?_eq_none (by simp; omega)]
theorem sort_any_6 {w:World} {g c:Nat} {xs:List Nat} (hR:Row w g 47 c (u64s xs)) (hn:xs.length<4611686018427387904):
 Calls Tryz.prog 90 #[.slice (some ⟨g,0,none⟩) xs.length c] w (Sorted6 g c xs w):=by
 have h:=s6_Sort pdqWalkO_all_6 g 0 c (intsU_6 xs).toArray w (row_holds_6 hR) hR.lt (by simpa [intsU_6] using hn)
 have e:(intsU_6 xs).toArray.size=xs.length:=by simp [intsU_6]
 rw [e] at h
 refine h.mono ?_
 rintro e w' ⟨rfl,n,os,rfl⟩
 obtain⟨ys,h1,h2,h3⟩:=sort_ints_6 xs
 have hs:Sort.sort ltInt (intsU_6 xs).toArray=(intsU_6 ys).toArray:=by
  rw [h1,← sortInt (intsU_6 xs)]
 rw [hs]
 refine⟨rfl,ys,h2,h3,?_,frb_sortedU_6 _⟩
 obtain⟨cur,hb,hl,hm,hc,hx⟩:=hR
 have hly:ys.length=xs.length:=h2.length_eq
 rw [u64s_len] at hl hx
 refine⟨_,heap_sortedU_6 _ hb,by rw [u64s_len,hly]; exact hl,hm,by simp [putCells,hc],?_⟩
 have ht:=take_putCellsU_6 cur (intsU_6 ys) (by rw [intsU_len_6,hly]; have:cur.size=c:=(by simpa using hc); omega)
 rw [intsU_len_6] at ht
 rw [u64s_len,u64s_ints]
 first | exact ht | (rw [Nat.mul_one]; exact ht)
end
section
open Go.RowKit
attribute [local go_sem] Oper.semAt_some
theorem row_own6 {w:World} {g c B:Nat} {xs:List Nat} (h:Row w g 47 c (u64s xs)) (hB:B≤g):w.ownsRow B 47 1 (.slice (some ⟨g,0,none⟩) xs.length c) xs.length (u64s xs):=by
 obtain⟨cur,hb,hl,hm,hc,hx⟩:=h
 rw [u64s_len] at hl hx
 exact⟨by simp [u64s_len],.inr ⟨g,c,cur,rfl,hB,hb,hl,hm,by simpa using hc,by rw [Nat.mul_one]; exact hx⟩⟩
theorem sortV6_any {w:World} {B:Nat} {v:Value} {xs:List Nat} (h:w.ownsRow B 47 1 v xs.length (u64s xs)) (hB:B≤w.heap.size) (hn:xs.length<4611686018427387904):
 Calls Tryz.prog 90 #[v] w fun e w'=>e = .returned (.tuple #[])∧w'.ownsRow B 47 1 v xs.length (u64s (sortN xs))∧Below B w w':=by
 by_cases h0:0<xs.length
 ·obtain⟨g,c,rfl,hr,_,hg⟩:=Row.of_any h h0
  refine (sort_any_6 hr hn).mono ?_
  rintro e w' ⟨rfl,ys,h1,h2,h3,h4⟩
  have hys:ys=sortN xs:=by
   unfold sortN
   refine List.Perm.eq_of_pairwise (le:=fun x y:Nat=>x≤y) (fun a b _ _ h1 h2=>by omega) h2 ?_ (h1.trans (List.mergeSort_perm _ _).symm)
   exact (List.pairwise_mergeSort (le:=fun x y:Nat=>decide (x≤y)) (fun a b c h1 h2=>by
    simp only [decide_eq_true_eq] at *
    omega) (fun a b=>by
    simp only [Bool.or_eq_true,decide_eq_true_eq]
    omega) xs).imp fun hh=>by simpa using hh
  have:=row_own6 (B:=B) h3 hg
  rw [h1.length_eq,hys] at this
  exact⟨rfl,this,h4.below hg hB⟩
 ·have hx:xs=[]:=List.eq_nil_of_length_eq_zero (by omega)
  subst hx
  obtain⟨A,c,rfl⟩:=own_val h
  refine (s6_Sort_int_nil A c w).mono ?_
  rintro e w' ⟨rfl,rfl⟩
  exact⟨rfl,by rw [show sortN []=[] by simp [sortN]]; exact h,Below.refl _ _⟩
theorem info_u64:(Tryz.prog.info? 47).map (fun i=>(i.zero,i.size,i.bytes))=some (some (Value.int .u64 0),1,8):=by kernel_rfl
theorem u64s_snoc (l:List Nat) (x:Nat):u64s (l++[x])=u64s l++[.int .u64 (x:Int)]:=by unfold u64s; rw [List.map_append]; rfl
theorem HKeep.grew {p:HP} {gt:Nat} {w w1 w2:World} {b:Option Nat} (K:HKeep p gt w w1) (hg:w1.grownBy w2 b) (hb:∀ q,b=some q→w.heap.size≤q):HKeep p gt w w2:=
 ⟨hg.os.trans K.os,hg.tape.trans K.tape,hg.output.trans K.output,Nat.le_trans K.size hg.size,fun k hk hn hgt=>(hg.block k (Nat.lt_of_lt_of_le hk K.size) (fun e=>by have:=hb k e.symm; omega)).trans (K.block k hk hn hgt)⟩
theorem HT.grew {W w1 w2:World} {p:HP} {g gt:Nat} {h:HM} {t:TM} {b:Option Nat} (T:HT W w1 p g gt h t) (hg:w1.grownBy w2 b) (hb:∀ q,b=some q→W.heap.size≤q∧¬ p.has q∧q≠gt):HT W w2 p g gt h t:=
 T.same (fun k hk=>hg.block k (by
  rcases hk with hk | hk
  ·exact T.live.at_.lt hk
  ·exact hk ▸ T.tab.lt) (fun e=>by
  have:=hb k e.symm
  rcases hk with hk | hk
  ·exact this.2.1 hk
  ·exact this.2.2 hk)) (below_grown (Nat.le_refl _) T.live.below hg (fun q hq=>(hb q hq).1))
theorem HKeep.belowB {p:HP} {gt B:Nat} {w w1 w2:World} (K:HKeep p gt w w1) (hb:Below B w1 w2) (hB:w.heap.size≤B):HKeep p gt w w2:=
 ⟨hb.os.trans K.os,hb.tape.trans K.tape,hb.output.trans K.output,Nat.le_trans K.size hb.size,fun k hk hn hgt=>(hb.block k (Nat.lt_of_lt_of_le hk hB)).trans (K.block k hk hn hgt)⟩
theorem HT.belowB {W w1 w2:World} {p:HP} {g gt B:Nat} {h:HM} {t:TM} (T:HT W w1 p g gt h t) (hb:Below B w1 w2) (hB:∀ k,p.has k∨k=gt→k<B) (hW:W.heap.size≤B):HT W w2 p g gt h t:=
 T.same (fun k hk=>hb.block k (hB k hk)) (T.live.below.trans (hb.mono hW))
def TickP (W:World) (p:HP) (g gt:Nat) (h:HM) (t:TM) (n:Int) (w:World) (e:Ending) (w':World):Prop:=
 ∃ v,e = .returned (.tuple #[v,.int .i64 (tikE h t n:Nat)])∧w'.ownsRow w.heap.size 47 1 v (tikL h t n).length (u64s (tikL h t n))∧HT W w' p g gt (tikH h t n) (tikT h t n)∧HKeep p gt w w'
theorem own_none {w:World} {B s:Nat} {e:TypeId}:w.ownsRow B e s (.slice none 0 0) 0 []:=⟨by simp,.inl ⟨rfl,rfl⟩⟩
theorem TM.clears_same' (t:TM) (a:List Nat):(t.clears a).now=t.now:=(TM.clears_same a t).2.2
theorem tick_bad {h:HM} {t:TM} {n:Int} {E:Nat} (he:tikE h t n=E) (h0:E≠0):tikT h t n=t∧tikH h t n=h∧tikL h t n=[]:=by
 subst he
 exact⟨by unfold tikT; rw [if_neg h0],by unfold tikH; rw [if_neg h0],by unfold tikL; rw [if_neg h0]⟩
theorem hreads_one (w:World) (a:Value) (t:TypeId):Reads (w.alloc (.cells #[a] t)) (w.heap.size+1) 1 (some ⟨w.heap.size,0,none⟩) 1 [a]:=by
 refine⟨rfl,fun _=>⟨_,rfl,by simp,fun j v hv=>?_⟩⟩
 rw [WideShapes.add_plain,Nat.zero_add]
 refine ((Blk.new w t #[a]).cell j).trans ?_
 rw [← hv]
 simp
section
variable {W w:World} {p:HP} {g gt:Nat} {h:HM} {t:TM} (T:HT W w p g gt h t)
include T
set_option maxRecDepth 100000 in
set_option maxHeartbeats 4000000 in
theorem ttick_any (n:Int) (hn1: -9223372036854775808≤n) (hn2:n≤9223372036854775807):Calls Tryz.prog 27 #[.pointer (some ⟨gt,0,none⟩),.int .i64 n] w (TickP W p g gt h t n w):=by
 have HBR:=Lib.hid (tbroken_any T)
 have HT0:=Lib.hid T
 have hnw:=T.ok.nw
 have HTE:=Lib.hid (show tikE h t n=if brkB h t then 164 else if n<0∨(1099511627776-t.now:Int)<n then 1 else 0 from rfl)
 have a1:IntKind.i64.wrap (1099511627776-(t.now:Int))=1099511627776-(t.now:Int):=IntWalk.i64_in _ (by omega)
 clear T
 cases hbr:brkB h t with
 | true=>
   have he:tikE h t n=164:=by rw [HTE.out,hbr,if_pos rfl]
   obtain⟨e1,e2,e3⟩:=tick_bad he (by decide)
   have HV:=Lib.hid (And.intro e1 (And.intro e2 (And.intro e3 he)))
   rw [hbr] at HBR
   clear he e1 e2 e3
   go_enter Tryz.func27,Tryz.ntmps27
   go_wp2_with fail
   refine HBR.out.mono ?_
   rintro e w1 ⟨rfl,hb1⟩
   have HB1:=Lib.hid hb1
   clear hb1
   go_wp2_with fail
   go_ret2
   exact⟨_,by rw [HV.out.2.2.2]; rfl,by rw [HV.out.2.2.1]; exact own_none,by rw [HV.out.1,HV.out.2.1]; exact HT0.out.after HB1.out,HKeep.of_below HB1.out⟩
 | false =>
   have HTE2:=Lib.hid (HTE.out.trans (by rw [hbr,if_neg (by decide)]))
   rw [hbr] at HBR
   clear HTE
   by_cases hr:n<0∨(1099511627776-t.now:Int)<n
   ·have he:tikE h t n=1:=by rw [HTE2.out,if_pos hr]
    obtain⟨e1,e2,e3⟩:=tick_bad he (by decide)
    have HV:=Lib.hid (And.intro e1 (And.intro e2 (And.intro e3 he)))
    clear he e1 e2 e3 HTE2
    by_cases h0:n<0
    ·clear hr
     go_enter Tryz.func27,Tryz.ntmps27
     go_wp2_with fail
     refine HBR.out.mono ?_
     rintro e w1 ⟨rfl,hb1⟩
     have HB1:=Lib.hid hb1
     clear hb1
     go_wp2_with fail
     go_ret2
     exact⟨_,by rw [HV.out.2.2.2]; rfl,by rw [HV.out.2.2.1]; exact own_none,by rw [HV.out.1,HV.out.2.1]; exact HT0.out.after HB1.out,HKeep.of_below HB1.out⟩
    ·have h1:1099511627776-(t.now:Int)<n:=hr.resolve_left h0
     clear hr
     go_enter Tryz.func27,Tryz.ntmps27
     go_wp2_with fail
     refine HBR.out.mono ?_
     rintro e w1 ⟨rfl,hb1⟩
     have HB1:=Lib.hid hb1
     have c6:=(HT0.out.after hb1).cNow
     clear hb1
     go_wp2_with fail
     go_ret2
     exact⟨_,by rw [HV.out.2.2.2]; rfl,by rw [HV.out.2.2.1]; exact own_none,by rw [HV.out.1,HV.out.2.1]; exact HT0.out.after HB1.out,HKeep.of_below HB1.out⟩
   ·have he:tikE h t n=0:=by rw [HTE2.out,if_neg hr]
    obtain⟨m,rfl⟩:=Int.eq_ofNat_of_zero_le (show 0≤n by omega)
    have hm:t.now+m≤1099511627776:=by omega
    have HV:=Lib.hid (show tikT h t m=(t.pass m).clears ((t.pass m).goneK 256)∧tikH h t m=h.clrs ((t.pass m).goneK 256)∧tikL h t m=sortN ((t.pass m).ids ((t.pass m).goneK 256))∧tikE h t m=0 from
     ⟨by unfold tikT; rw [if_pos he]; rfl,by unfold tikH; rw [if_pos he]; rfl,by unfold tikL; rw [if_pos he]; rfl,he⟩)
    have a2:IntKind.i64.wrap ((t.now:Int)+(m:Int))=(t.now:Int)+(m:Int):=IntWalk.i64_in _ (by omega)
    have h3:¬ 1099511627776-(t.now:Int)<(m:Int):=by omega
    clear he hr HTE2
    go_enter Tryz.func27,Tryz.ntmps27
    go_wp2_with fail
    refine HBR.out.mono ?_
    rintro e w1 ⟨rfl,hb1⟩
    have T1:=HT0.out.after hb1
    have c6:=T1.cNow
    have fz:=T1.tab.fz
    have T2:=T1.setNow (t.now+m) (T1.ok.pass hm)
    have HK2:=Lib.hid (show HKeep p gt w (w1.setCell ⟨gt,515,none⟩ (.int .i64 ((t.now+m:Nat):Int))) from (HKeep.of_below hb1).setCell _ _)
    rw [Int.natCast_add] at T2 HK2
    have T2:HT W (w1.setCell ⟨gt,515,none⟩ (.int .i64 ((t.now:Int)+(m:Int)))) p g gt h (t.pass m):=T2
    have hld:=T2.loadAt
    have HIX:=Lib.hid (fun (k:Nat) (hk:k<256) (w:World)=>index_slot T2.ok.len hk w)
    have HT2:=Lib.hid T2
    clear T1 T2 hb1 HBR HT0
    generalize Value.agg (slC (t.pass m).slots).toArray=vs at hld HIX
    generalize t.pass m=t2 at *
    go_wp2_with fail
    generalize w1.setCell ⟨gt,515,none⟩ (.int .i64 ((t.now:Int)+(m:Int)))=w2 at *
    refine oper_load (v:=vs) hld ?_
    go_wp2_with fail
    obtain⟨i0,hi0,hz0,hz1,hz2⟩:=info_parts info_u64
    have HPL:=Lib.hid (show ∀ q,w2.heap.size≤q→W.heap.size≤q∧¬ p.has q∧q≠gt from fun q hq=>⟨Nat.le_trans HT2.out.live.below.size hq,fun hh=>by have:=HT2.out.live.at_.lt hh; omega,fun e=>by have:=HT2.out.tab.lt; omega⟩)
    have HWS:=Lib.hid HK2.out.size
    have HWL:=Lib.hid HT2.out.live.below.size
    go_loopw [6,34] (fun gv iv wr=>∃ k:Nat,k≤256∧iv = .int .i64 (k:Int)∧Hid (wr.ownsRow w2.heap.size 47 1 gv (t2.goneK k).length (u64s (t2.ids (t2.goneK k))))∧Hid (HT W wr p g gt (h.clrs (t2.goneK k)) (t2.clears (t2.goneK k)))∧Hid (HKeep p gt w wr)∧Hid (w2.heap.size≤wr.heap.size)) (fun _ iv _=>256-(intOf iv).toNat)
    case atStart=>exact⟨0,by omega,rfl,Lib.hid own_none,HT2,HK2,Lib.hid (Nat.le_refl _)⟩
    case round=>
     have HTO:=Lib.hid HT2.out.ok
     clear hld HT2 HK2 c6 fz
     obtain⟨k,hk,rfl,HOr,HTr,HKr,HZr⟩:=hrel
     by_cases hlt:k<256
     ·have hi:=HIX.out k hlt wr
      have HUS:=Lib.hid (show t2.slots.getD k (0,0)≠(0,0)→¬ (t2.slots.getD k (0,0)).1=0 from fun hu e=>by have:=(HTO.out.used k hu).1; have e:(t2.at k).1=0:=e; omega)
      have HSU:=Lib.hid (show t2.goneK (k+1)=if (usedB (t2.slots.getD k (0,0)) && decide ((t2.slots.getD k (0,0)).2≤t2.now)) then t2.goneK k++[k] else t2.goneK k from t2.goneK_succ k)
      have HID:=Lib.hid (show t2.ids [k]=[(t2.slots.getD k (0,0)).1] from rfl)
      have c6:wr.cell? ⟨gt,515,none⟩=some (.int .i64 (t2.now:Int)):=by rw [HTr.out.cNow,(t2.clears_same' _)]
      generalize t2.slots.getD k (0,0)=s at hi HUS HSU HID
      clear HIX
      rcases s with ⟨a,b⟩
      have hlt2:(k:Int)<256:=by omega
      have HLN:=Lib.hid (t2.goneK_len k)
      by_cases hu:((a,b):Nat × Nat)=(0,0)
      ·obtain⟨rfl,rfl⟩ :a=0∧b=0:=by simpa using hu
       have HS2:=Lib.hid (show t2.goneK (k+1)=t2.goneK k by rw [HSU.out]; rfl)
       have hbx:=(Below.refl wr.heap.size wr).alloc (Nat.le_refl _) (.cells #[.int .u64 0,.int .i64 0] 93)
       have HBX:=Lib.hid hbx
       have x0:(wr.alloc (.cells #[.int .u64 0,.int .i64 0] 93)).cell? ⟨wr.heap.size,0,none⟩=some (.int .u64 0):=(Blk.new wr 93 #[.int .u64 0,.int .i64 0]).cell 0
       have x1:(wr.alloc (.cells #[.int .u64 0,.int .i64 0] 93)).cell? ⟨wr.heap.size,1,none⟩=some (.int .i64 0):=(Blk.new wr 93 #[.int .u64 0,.int .i64 0]).cell 1
       simp only [Int.natCast_zero] at hi
       clear hbx
       go_upto_region 10 with fail
       generalize wr.alloc (.cells #[.int .u64 0,.int .i64 0] 93)=w5 at *
       go_quiet (fail)
       go_wp2_with fail
       go_roundw
       case rel=>exact⟨k+1,by omega,by go_num,by rw [HS2.out]; exact Lib.hid (own_below HOr.out (below_drewN HBX.out _)),by rw [HS2.out]; exact Lib.hid (HTr.out.after (below_drewN HBX.out _)),Lib.hid (HKr.out.after (below_drewN HBX.out _)),Lib.hid (Nat.le_trans HZr.out (below_drewN HBX.out nq).size)⟩
       case measure=>simp [intOf]; omega
      ·have ha0:¬ a=0:=HUS.out hu
       have ha1:((a:Int) == 0)=false:=by simpa using ha0
       have hbx:=(Below.refl wr.heap.size wr).alloc (Nat.le_refl _) (.cells #[.int .u64 (a:Int),.int .i64 (b:Int)] 93)
       have HBX:=Lib.hid hbx
       have x0:(wr.alloc (.cells #[.int .u64 (a:Int),.int .i64 (b:Int)] 93)).cell? ⟨wr.heap.size,0,none⟩=some (.int .u64 (a:Int)):=(Blk.new wr 93 #[.int .u64 (a:Int),.int .i64 (b:Int)]).cell 0
       have x1:(wr.alloc (.cells #[.int .u64 (a:Int),.int .i64 (b:Int)] 93)).cell? ⟨wr.heap.size,1,none⟩=some (.int .i64 (b:Int)):=(Blk.new wr 93 #[.int .u64 (a:Int),.int .i64 (b:Int)]).cell 1
       have c6':=(hbx.cell (p:=⟨gt,515,none⟩) (World.block_lt_of_cell? _ _ c6)).trans c6
       clear hbx c6
       by_cases hex:b≤t2.now
       ·have HS2:=Lib.hid (show t2.goneK (k+1)=t2.goneK k++[k] by rw [HSU.out,(usedB_iff (a,b)).2 hu,decide_eq_true hex]; rfl)
        have HS3:=Lib.hid (show h.clrs (t2.goneK (k+1))=(h.clrs (t2.goneK k)).clrK k∧t2.clears (t2.goneK (k+1))=(t2.clears (t2.goneK k)).clear k∧(t2.goneK (k+1)).length=(t2.goneK k).length+1∧u64s (t2.ids (t2.goneK (k+1)))=u64s (t2.ids (t2.goneK k))++[.int .u64 (a:Int)] by
         rw [HS2.out]; exact⟨clrs_snoc _ _ _,TM.clears_snoc _ _ _,by simp,by rw [show t2.ids (t2.goneK k++[k])=t2.ids (t2.goneK k)++t2.ids [k] from List.map_append,HID.out,u64s_snoc]⟩)
        have hd1:decide ((b:Int)≤(t2.now:Int))=true:=by simpa using hex
        have hln:(t2.goneK k).length≤256:=by have:=HLN.out; omega
        clear HS2 HSU HID
        go_upto_region 10 with fail
        generalize wr.alloc (.cells #[.int .u64 (a:Int),.int .i64 (b:Int)] 93)=w5 at *
        go_quiet (fail)
        have HBX2:=Lib.hid (below_drewN HBX.out nq)
        have HOQ:=Lib.hid (own_below HOr.out HBX2.out)
        have HTQ:=Lib.hid (HTr.out.after HBX2.out)
        have HKQ:=Lib.hid (HKr.out.after HBX2.out)
        have HZQ:=Lib.hid (Nat.le_trans HZr.out HBX2.out.size)
        have y0:(w5.drewN nq).cell? ⟨wr.heap.size,0,none⟩=some (.int .u64 (a:Int)):=x0
        clear x0 x1 c6'
        generalize w5.drewN nq=wq at *
        have hZ:=HZQ.out
        go_wp2_with (at_builtin; refine wpList_append_any _ rfl (.tmp 50) (.tmp 53) _ rfl w2.heap.size 47 i0 _ 1 8 Tryz.underlying58 hi0 hz0 hz1 hz2 rfl (by omega) u6 (t2.goneK k).length _ rfl (own_keep HOQ.out (fun q hq=>Below.heap_alloc wq (.cells #[.int .u64 (a:Int)] 47) q (HOQ.out.lt q hq).2)) (wq.heap.size+1) (some ⟨wq.heap.size,0,none⟩) 1 1 [.int .u64 (a:Int)] rfl (hreads_one wq _ _) (fun u hu=>by simp at hu; subst hu; rfl) (by simp only [maxLen]; omega) (by omega) (by simp; omega) ?_; intro v3 w3 hown3 hgrow3 hat3; have HO3:=Lib.hid hown3; have HG3:=Lib.hid hgrow3; clear hown3 hgrow3 hat3)
        have hal:=(Below.refl wq.heap.size wq).alloc (Nat.le_refl _) (.cells #[.int .u64 (a:Int)] 47)
        have T3:=(HTQ.out.after hal).grew HG3.out (fun q hq=>HPL.out q (HOQ.out.lt q hq).1)
        have HK3:=Lib.hid ((HKQ.out.after hal).grew HG3.out (fun q hq=>Nat.le_trans HWS.out (HOQ.out.lt q hq).1))
        have HZ3:=Lib.hid (Nat.le_trans HZQ.out (Nat.le_trans hal.size HG3.out.size))
        have HCL:=Lib.hid (tclear_any T3 k hlt)
        clear hal T3 hZ
        refine HCL.out.mono ?_
        rintro e w4 ⟨rfl,T4,K4⟩
        have HO4:=Lib.hid (own_keep HO3.out (fun q hq=>K4.block q (HO3.out.lt q hq).2 (HPL.out q (HO3.out.lt q hq).1).2.1 (HPL.out q (HO3.out.lt q hq).1).2.2))
        have HT4:=Lib.hid T4
        have HK4:=Lib.hid (HK3.out.trans K4)
        have HZ4:=Lib.hid (Nat.le_trans HZ3.out K4.size)
        clear T4 K4
        go_wp2_with fail
        go_roundw
        case rel=>exact⟨k+1,by omega,by go_num,by rw [HS3.out.2.2.1,HS3.out.2.2.2]; exact HO4,by rw [HS3.out.1,HS3.out.2.1]; exact HT4,HK4,HZ4⟩
        case measure=>simp [intOf]; omega
       ·have HS2:=Lib.hid (show t2.goneK (k+1)=t2.goneK k by rw [HSU.out,decide_eq_false hex,Bool.and_false]; rfl)
        have hd1:decide ((b:Int)≤(t2.now:Int))=false:=by simpa using hex
        clear HSU HID
        go_upto_region 10 with fail
        generalize wr.alloc (.cells #[.int .u64 (a:Int),.int .i64 (b:Int)] 93)=w5 at *
        go_quiet (fail)
        go_wp2_with fail
        go_roundw
        case rel=>exact⟨k+1,by omega,by go_num,by rw [HS2.out]; exact Lib.hid (own_below HOr.out (below_drewN HBX.out _)),by rw [HS2.out]; exact Lib.hid (HTr.out.after (below_drewN HBX.out _)),Lib.hid (HKr.out.after (below_drewN HBX.out _)),Lib.hid (Nat.le_trans HZr.out (below_drewN HBX.out nq).size)⟩
        case measure=>simp [intOf]; omega
     ·obtain rfl:k=256:=by omega
      have HLE:=Lib.hid (show (t2.ids (t2.goneK 256)).length=(t2.goneK 256).length from List.length_map _)
      have HLE2:=Lib.hid (show (sortN (t2.ids (t2.goneK 256))).length=(t2.goneK 256).length by unfold sortN; rw [List.length_mergeSort,HLE.out])
      have hown:=HOr.out
      rw [← HLE.out] at hown
      have HSO:=Lib.hid (sortV6_any hown HZr.out (by rw [HLE.out]; have:=t2.goneK_len 256; omega))
      clear hown
      go_wp2_with fail
      refine HSO.out.mono ?_
      rintro e w5 ⟨rfl,hown5,hb5⟩
      have HO5:=Lib.hid hown5
      have HT5:=Lib.hid (HTr.out.belowB hb5 (fun k hk=>by
       rcases Nat.lt_or_ge k w2.heap.size with h1 | h1
       ·exact h1
       ·have:=HPL.out k h1
        rcases hk with hk | hk
        ·exact absurd hk this.2.1
        ·exact absurd hk this.2.2) HWL.out)
      have HK5:=Lib.hid (HKr.out.belowB hb5 HWS.out)
      clear hown5 hb5
      go_wp2_with fail
      go_ret2
      refine⟨u6,by rw [HV.out.2.2.2]; rfl,?_,by rw [HV.out.1,HV.out.2.1]; exact HT5.out,HK5.out⟩
      rw [HV.out.2.2.1,HLE2.out,← HLE.out]
      exact own_base HO5.out HWS.out
end
end
section
open Go.RowKit
attribute [local go_sem] Oper.semAt_some
def mvs (pl:List (Nat × Nat)):List Value:=pl.flatMap fun p=>[.int .u32 (p.1:Int),.int .u32 (p.2:Int)]
theorem mvs_snoc (pl:List (Nat × Nat)) (p:Nat × Nat):mvs (pl++[p])=mvs pl++[.int .u32 (p.1:Int),.int .u32 (p.2:Int)]:=by unfold mvs; rw [List.flatMap_append]; rfl
theorem mvs_get:∀ (pl:List (Nat × Nat)) (i j:Nat) (p:Nat × Nat),pl[i]? = some p→(mvs pl)[i*2]? = some (.int .u32 (p.1:Int))∧(mvs pl)[i*2+1]? = some (.int .u32 (p.2:Int))
 | [],i,j,p,h=>by simp at h
 | a :: l,0,j,p,h=>by
   simp at h
   subst h
   exact⟨rfl,rfl⟩
 | a :: l,i+1,j,p,h=>by
   obtain⟨h1,h2⟩:=mvs_get l i j p (by simpa using h)
   have e:mvs (a :: l) = .int .u32 (a.1:Int) :: .int .u32 (a.2:Int) :: mvs l:=rfl
   rw [e,show (i+1)*2=i*2+1+1 by omega,List.getElem?_cons_succ,List.getElem?_cons_succ,show i*2+1+1+1=i*2+1+1+1 from rfl,List.getElem?_cons_succ,List.getElem?_cons_succ]
   exact⟨h1,h2⟩
theorem info_mv:(Tryz.prog.info? 176).map (fun i=>(i.zero,i.size,i.bytes))=some (some (Value.agg #[.int .u32 0,.int .u32 0]),2,8):=by kernel_rfl
theorem planF_snoc (p:Nat × Ob):∀ (a:Nat) (z:List (Nat × Ob)),planF a (z++[p])=planF a z++[(p.1,2*(a+(wsOf (z.map (·.2))).length))]
 | a,[]=>by simp [planF,wsOf_nil]
 | a,q :: z=>by
   simp only [List.cons_append,planF,planF_snoc p _ z,List.map_cons,wsOf_cons,List.length_append,Ob.ws_len]
   congr 5
   omega
def PlanP (pl:List (Nat × Nat)) (w:World) (e:Ending) (w':World):Prop:=
 ∃ v,e = .returned v∧w'.ownsRow w.heap.size 176 2 v pl.length (mvs pl)∧Below w.heap.size w w'
theorem reads_two (w:World) (a b:Value) (t:TypeId):Reads (w.alloc (.cells #[a,b] t)) (w.heap.size+1) 2 (some ⟨w.heap.size,0,none⟩) 1 [a,b]:=by
 refine⟨rfl,fun _=>⟨_,rfl,by simp,fun j v hv=>?_⟩⟩
 rw [WideShapes.add_plain,Nat.zero_add]
 refine ((Blk.new w t #[a,b]).cell j).trans ?_
 rw [← hv]
 simp
section
variable {w:World} {p:HP} {h:HM} {l:List Ob}
set_option maxHeartbeats 1000000 in
theorem csize_any (H:HAt w p h) (G:h.Good l) (hs:Spares w) {o:Nat} (hi:h.isB o=true):
 Calls Tryz.prog 170 #[ptr p.g,.int .u32 o] w (Told (.int .i64 (3+(h.hd (o / 2)).size:Nat)) w):=by
 have HH:=Lib.hid (Header_any H G.fit G.laid.heads hs o (isB_u32 G hi))
 have hV:h.headerV o = .tuple #[(h.hd (o / 2)).val,.int .i64 0]:=by unfold HM.headerV; simp [hi]
 rw [hV] at HH
 have hsz:=hd_size G hi
 clear hV H G hs hi
 generalize h.hd (o / 2)=X at *
 obtain⟨n,t,s,c,r⟩:=X
 simp only at hsz
 unfold Hd.val at HH
 unfold ptr at HH ⊢
 go_enter Tryz.func170,Tryz.ntmps170
 go_wp2_with fail
 refine HH.out.mono ?_
 rintro e w1 ⟨rfl,hb1⟩
 have hb2:=hb1.alloc hb1.size (.cells #[.int .i64 (n:Int),.int .i64 (t:Int),.int .i64 (s:Int),.int .u32 (c:Int),.int .u32 (r:Int)] 75)
 have HB2:=Lib.hid hb2
 have BX:=Blk.new w1 75 #[.int .i64 (n:Int),.int .i64 (t:Int),.int .i64 (s:Int),.int .u32 (c:Int),.int .u32 (r:Int)]
 obtain⟨x0,x1,x2,x3,x4⟩:=BX.cells5
 clear hb1 hb2 HH BX
 go_wp2_with fail
 go_ret
 exact⟨by first | rfl | (congr 2; push_cast; rfl),HB2.out⟩
set_option maxRecDepth 100000 in
set_option maxHeartbeats 4000000 in
theorem plan_any (H:HAt w p h) (G:h.Good l) (hs:Spares w):Calls Tryz.prog 91 #[ptr p.g] w (PlanP (planM h l) w):=by
 have HH:=Lib.hid (fun (w':World) (hb:Below w.heap.size w w')=>H.below hb)
 have HS:=Lib.hid (fun (w':World) (hb:Below w.heap.size w w')=>hs.below hb)
 have HG:=Lib.hid G
 have HLV:=Lib.hid (live_any H G hs)
 obtain⟨i0,hi0,hz0,hz1,hz2⟩:=info_parts info_mv
 have HLZ:=Lib.hid (keepZ_len h l)
 have HLF:=Lib.hid (keepZ_fst h l)
 have hLN:(keepZ h l).length≤1048576:=by
  have h1:=(keepZ_snd h l).length_le
  rw [List.length_map] at h1
  have h2:=oopsL_le G
  rw [oopsL_len] at h2
  omega
 have HW:=Lib.hid (show ∀ k,k≤(keepZ h l).length→1+(wsOf (((keepZ h l).take k).map (·.2))).length≤1048576 from fun k _=>by
  have h1:(wsOf (((keepZ h l).take k).map (·.2))).length≤(wsOf l).length:=wsOf_sub (((List.take_sublist k _).map _).trans (keepZ_snd h l))
  have h2:=G.fit.room
  have h3:=G.fit.hi
  rw [G.laid.words,List.length_cons] at h2
  omega)
 clear H G hs
 unfold ptr at HLV HH ⊢
 go_enter Tryz.func91,Tryz.ntmps91
 go_wp2_with fail
 refine HLV.out.mono ?_
 rintro e w1 ⟨v,rfl,hown,hb⟩
 have HOL:=Lib.hid hown
 have HB1:=Lib.hid hb
 obtain⟨A,c,hv⟩:=own_val hown
 subst hv
 rw [← HLZ.out]
 clear hown hb HLV
 go_wp2_with fail
 go_loopw [3,4,6,7,8,12] (fun lv av _ _ _ iv wr=>∃ k:Nat,iv = .int .i64 k∧k≤(keepZ h l).length∧av = .int .i64 ((1+(wsOf (((keepZ h l).take k).map (·.2))).length:Nat):Int)∧wr.ownsRow w1.heap.size 176 2 lv k (mvs (planF 1 ((keepZ h l).take k)))∧Below w1.heap.size w1 wr) (fun _ _ _ _ _ iv _=>(keepZ h l).length-(intOf iv).toNat)
 case atStart=>exact⟨0,rfl,by omega,rfl,⟨rfl,.inl ⟨rfl,rfl⟩⟩,Below.refl _ _⟩
 case round=>
  obtain⟨k,rfl,hk,rfl,hown,hb⟩:=hrel
  have HOW:=Lib.hid hown
  have HB:=Lib.hid hb
  clear hown hb
  by_cases hlt:k<(keepZ h l).length
  ·have hL0:0<(liveO h l).length:=by rw [← HLZ.out]; omega
   obtain⟨gv,cv,hvv,hrv,_,hgv⟩:=Row.of_any HOL.out hL0
   rw [← HLZ.out] at hvv
   cases hvv
   have hrv2:=hrv.below HB.out
   have hcl:=hrv2.cell (u32s_get (l:=liveO h l) (i:=k) (by rw [← HLZ.out]; exact hlt))
   have hpz:(liveO h l).getD k 0=((keepZ h l)[k]).1:=by
    rw [← HLF.out,List.getD_eq_getElem?_getD,List.getElem?_map,List.getElem?_eq_getElem hlt]; rfl
   rw [hpz] at hcl
   obtain⟨j,hj,hp1,hp2,hp3⟩:=keepZ_mem (List.getElem_mem hlt)
   have hib:=walk_isB HG.out HG.out.sound.roots _ hp3
   have hhd:(h.hd (((keepZ h l)[k]).1 / 2)).size=((keepZ h l)[k]).2.fs.length:=by
    rw [hp1,half_pos,hd_at' HG.out j hj,hp2]
    exact (HG.out.laid.ok _ (List.getElem_mem hj)).size
   have HSZ:=Lib.hid (fun (w':World) (hb:Below w.heap.size w w')=>csize_any (HH.out w' hb) HG.out (HS.out w' hb) hib)
   rw [hhd] at HSZ
   unfold ptr at HSZ
   have htk:(keepZ h l).take (k+1)=(keepZ h l).take k++[(keepZ h l)[k]]:=by rw [List.take_add_one,List.getElem?_eq_getElem hlt]; rfl
   have HP:=Lib.hid (show planF 1 ((keepZ h l).take (k+1))=planF 1 ((keepZ h l).take k)++[(((keepZ h l)[k]).1,2*(1+(wsOf (((keepZ h l).take k).map (·.2))).length))] by rw [htk,planF_snoc])
   have HA:=Lib.hid (show 1+(wsOf (((keepZ h l).take (k+1)).map (·.2))).length=1+(wsOf (((keepZ h l).take k).map (·.2))).length+(3+((keepZ h l)[k]).2.fs.length) by
    rw [htk,List.map_append,wsOf_app,List.length_append,List.map_cons,List.map_nil,wsOf_cons,wsOf_nil,List.length_append,Ob.ws_len]; simp; omega)
   have hw1:=HW.out (k+1) (by omega)
   rw [HA.out] at hw1
   have HO32:=Lib.hid (isB_u32 HG.out hib)
   clear hpz hp1 hp2 hp3 hhd htk hib hj hrv hrv2 hL0
   generalize ((keepZ h l)[k]).1=o at *
   generalize ((keepZ h l)[k]).2.fs.length=fl at *
   generalize planF 1 ((keepZ h l).take k)=P0 at *
   generalize hAT:1+(wsOf (((keepZ h l).take k).map (·.2))).length=at_ at *
   have hat1:1≤at_:=by omega
   have HAT:=Lib.hid (oat_any at_ hat1 (by omega))
   clear hAT
   go_wp2_with fail
   refine (HAT.out _).mono ?_
   rintro e w2 ⟨rfl,rfl⟩
   clear hcl
   have hbl:w1.heap.size≤wr.heap.size:=HB.out.size
   go_wp2_with (at_builtin; refine wpList_append_any _ rfl (.tmp 21) (.tmp 25) _ rfl w1.heap.size 176 i0 _ 2 8 Tryz.underlying173 hi0 hz0 hz1 hz2 rfl (by omega) u3 k _ rfl (own_keep HOW.out (fun q hq=>Below.heap_alloc wr (.cells #[.int .u32 (o:Int),.int .u32 ((2*at_:Nat):Int)] 176) q (HOW.out.lt q hq).2)) (wr.heap.size+1) (some ⟨wr.heap.size,0,none⟩) 1 1 [.int .u32 (o:Int),.int .u32 ((2*at_:Nat):Int)] rfl (reads_two wr _ _ _) (fun u hu=>by simp at hu; rcases hu with rfl | rfl <;> rfl) (by simp only [maxLen]; omega) (by omega) (by simp; omega) ?_; intro v3 w3 hown3 hgrow3 hat3; have HB3:=Lib.hid (below_grown (Nat.le_refl _) (HB.out.alloc HB.out.size (.cells #[.int .u32 (o:Int),.int .u32 ((2*at_:Nat):Int)] 176)) hgrow3 (fun q hq=>(HOW.out.lt q hq).1)); have HO3:=Lib.hid hown3; clear hown3 hgrow3 hat3)
   refine (HSZ.out _ (HB1.out.trans (HB3.out.mono HB1.out.size))).mono ?_
   rintro e w4 ⟨rfl,hb4⟩
   have HO4:=Lib.hid (own_below HO3.out hb4)
   have HB4:=Lib.hid (below_top HB3.out hb4)
   clear hb4 HO3 HB3
   go_wp2_with fail
   go_roundw
   case rel=>exact⟨k+1,by go_num,by omega,by rw [HA.out]; first | rfl | (congr 1; push_cast; omega),by rw [HP.out,mvs_snoc]; exact HO4.out,HB4.out⟩
   case measure=>simp [intOf]; omega
  ·obtain rfl:k=(keepZ h l).length:=by omega
   have HE:=Lib.hid HOW.out
   rw [List.take_length] at HE
   clear HOW
   go_wp2_with fail
   go_ret
   refine⟨_,rfl,?_,HB1.out.trans (HB.out.mono HB1.out.size)⟩
   unfold planM
   rw [planF_len]
   exact own_base HE.out HB1.out.size
end
end
section
open Go.RowKit
attribute [local go_sem] Oper.semAt_some
structure MovAt (w:World) (B mg mb:Nat) (hp:Value) (v:Value) (ws:List Nat) (pl:List (Nat × Nat)) (t0 t1 t2 t3 t4:Nat):Prop where
 box:Blk w mg 172 #[hp,.map (some mb),v,.int .i64 (t0:Int),.int .i64 (t1:Int),.int .i64 (t2:Int),.int .i64 (t3:Int),.int .i64 (t4:Int)]
 own:w.ownsRow B 32 1 v ws.length (u32s ws)
 map:MapE 54 54 .u32 w mb pl.length (fun x=>(goesM pl x:Nat)) (fun x=>decide (x∈pl.map (·.1)))
 hg:B≤mg
 hm:B≤mb
structure MFr (mg:Nat) (v v':Value) (w w':World):Prop where
 os:w'.os=w.os
 tape:w'.tape=w.tape
 output:w'.output=w.output
 size:w.heap.size≤w'.heap.size
 same:∀ k,k<w.heap.size→k≠mg→v.ownBlock≠some k→w'.heap[k]? = w.heap[k]?
 blk:v'.ownBlock=v.ownBlock∨∃ k,v'.ownBlock=some k∧w.heap.size≤k
theorem MFr.refl (mg:Nat) (v:Value) (w:World):MFr mg v v w w:=⟨rfl,rfl,rfl,Nat.le_refl _,fun _ _ _ _=>rfl,.inl rfl⟩
theorem MFr.of_below {mg:Nat} {v:Value} {w w':World} (h:Below w.heap.size w w'):MFr mg v v w w':=⟨h.os,h.tape,h.output,h.size,fun k hk _ _=>h.block k hk,.inl rfl⟩
theorem MFr.trans {mg:Nat} {v v1 v2:Value} {w w1 w2:World} (h:MFr mg v v1 w w1) (k:MFr mg v1 v2 w1 w2):MFr mg v v2 w w2:=by
 refine⟨k.os.trans h.os,k.tape.trans h.tape,k.output.trans h.output,Nat.le_trans h.size k.size,fun q hq hm hv=>?_,?_⟩
 ·refine (k.same q (Nat.lt_of_lt_of_le hq h.size) hm (fun e=>?_)).trans (h.same q hq hm hv)
  rcases h.blk with h1 | ⟨j,h1,h2⟩
  ·exact hv (h1 ▸ e)
  ·rw [h1] at e
   injection e with e
   omega
 ·rcases k.blk with h1 | ⟨j,h1,h2⟩
  ·rw [h1]; exact h.blk
  ·exact .inr ⟨j,h1,Nat.le_trans h.size h2⟩
theorem MFr.row {mg g c:Nat} {v v':Value} {w w':World} {e:TypeId} {xs:List Value} (h:MFr mg v v' w w') (r:Row w g e c xs) (hm:g≠mg) (hv:v.ownBlock≠some g):Row w' g e c xs∧v'.ownBlock≠some g:=
 ⟨r.same (h.same g r.lt hm hv),fun e=>by
   rcases h.blk with h1 | ⟨j,h1,h2⟩
   ·exact hv (h1 ▸ e)
   ·rw [h1] at e
    injection e with e
    have:=r.lt
    omega⟩
theorem MFr.blk' {mg g:Nat} {v v':Value} {w w':World} {t:TypeId} {cs:Array Value} (h:MFr mg v v' w w') (r:Blk w g t cs) (hm:g≠mg) (hv:v.ownBlock≠some g):Blk w' g t cs:=r.same (h.same g r.lt hm hv)
theorem MFr.below {mg B:Nat} {v v':Value} {w w':World} (h:MFr mg v v' w w') (hm:B≤mg) (hv:∀ k,v.ownBlock=some k→B≤k) (hw:B≤w.heap.size):Below B w w':=
 ⟨h.os,h.tape,h.output,h.size,fun k hk=>h.same k (by omega) (by omega) (fun e=>by have:=hv k e; omega)⟩
section
variable {w w':World} {B mg mb:Nat} {hp v:Value} {ws:List Nat} {pl:List (Nat × Nat)} {t0 t1 t2 t3 t4:Nat}
theorem MovAt.below (M:MovAt w B mg mb hp v ws pl t0 t1 t2 t3 t4) (h:Below w.heap.size w w'):MovAt w' B mg mb hp v ws pl t0 t1 t2 t3 t4:=
 ⟨M.box.below h M.box.lt,own_below M.own h,M.map.below h,M.hg,M.hm⟩
theorem MovAt.drew (M:MovAt w B mg mb hp v ws pl t0 t1 t2 t3 t4):MovAt w.drew B mg mb hp v ws pl t0 t1 t2 t3 t4:=M.below ⟨rfl,rfl,rfl,Nat.le_refl _,fun _ _=>rfl⟩
theorem where_any (M:MovAt w B mg mb hp v ws pl t0 t1 t2 t3 t4) {o:Nat} (ho:o<4294967296):
 Calls Tryz.prog 92 #[.pointer (some ⟨mg,0,none⟩),.int .u32 o] w (Said (.tuple #[.int .u32 (whereM pl o:Nat),.bool (!deadB pl o)]) w):=by
 have c1:=M.box.cell 1
 have hlk:=M.map.look_ok tyOO ho
 have HK:=Lib.hid (cobject_any o ho w)
 by_cases hk:kindM o=2
 ·have hk2:k2 o=true:=by unfold k2; simpa using hk
  rw [hk2] at HK
  have HW:=Lib.hid (show whereM pl o=goesM pl o by unfold whereM; rw [if_pos hk])
  have HD:=Lib.hid (show (!deadB pl o)=decide (o∈pl.map (·.1)) by
   unfold deadB
   by_cases hm:o∈pl.map (·.1)
   ·rw [decide_eq_true hm,decide_eq_false (fun h=>h.2 hm)]; rfl
   ·rw [decide_eq_false hm,decide_eq_true ⟨hk,hm⟩]; rfl)
  clear M hk hk2
  generalize goesM pl o=y at *
  generalize decide (o∈pl.map (·.1))=b at *
  go_enter Tryz.func92,Tryz.ntmps92
  go_wp2_with fail
  refine HK.out.mono ?_
  rintro e w' ⟨rfl,rfl⟩
  go_wp2_with fail
  go_ret2
  exact⟨by rw [HW.out,HD.out]; rfl,rfl⟩
 ·have hk2:k2 o=false:=by unfold k2; simpa using hk
  rw [hk2] at HK
  have HW:=Lib.hid (show whereM pl o=o by unfold whereM; rw [if_neg hk])
  have HD:=Lib.hid (show (!deadB pl o)=true by unfold deadB; rw [decide_eq_false (fun h=>hk h.1)]; rfl)
  clear M hk hk2 hlk c1
  go_enter Tryz.func92,Tryz.ntmps92
  go_wp2_with fail
  refine HK.out.mono ?_
  rintro e w' ⟨rfl,rfl⟩
  go_wp2_with fail
  go_ret2
  exact⟨by rw [HW.out,HD.out]; rfl,rfl⟩
theorem mov_at {w2 w3:World} {o:Obj} (M:MovAt w2 B mg mb hp v ws pl t0 t1 t2 t3 t4) (hg:(w2.alloc o).grownBy w3 v.ownBlock):
 Blk w3 mg 172 #[hp,.map (some mb),v,.int .i64 (t0:Int),.int .i64 (t1:Int),.int .i64 (t2:Int),.int .i64 (t3:Int),.int .i64 (t4:Int)]:=
 M.box.same ((hg.block mg (by have:=M.box.lt; simp; omega) (fun e=>own_ne_blk M.own M.box (by decide) (by first | exact e | exact e.symm))).trans (Below.heap_alloc w2 o mg M.box.lt))
theorem mov_set {w2 w3:World} {o:Obj} {v1:Value} {ns:List Nat} (M:MovAt w2 B mg mb hp v ws pl t0 t1 t2 t3 t4) (hown:w3.ownsRow B 32 1 v1 (ws.length+ns.length) (u32s ws++u32s ns)) (hg:(w2.alloc o).grownBy w3 v.ownBlock)
 (hat:v1.ownBlock=v.ownBlock∨v1.ownBlock=some (w2.alloc o).heap.size):
 MovAt (w3.setCell ⟨mg,2,none⟩ v1) B mg mb hp v1 (ws++ns) pl t0 t1 t2 t3 t4∧MFr mg v v1 w2 (w3.setCell ⟨mg,2,none⟩ v1):=by
 have hb3:=mov_at M hg
 have hset:∀ q,q≠mg→(w3.setCell ⟨mg,2,none⟩ v1).heap[q]? = w3.heap[q]? :=fun q hq=>Below.heap_setCell w3 ⟨mg,2,none⟩ v1 q hq
 have hsame:∀ q,q<w2.heap.size→v.ownBlock≠some q→w3.heap[q]? = w2.heap[q]? :=fun q hq hn=>(hg.block q (by simp; omega) (fun e=>hn (by first | exact e | exact e.symm))).trans (Below.heap_alloc w2 o q hq)
 have hsz:w2.heap.size≤w3.heap.size:=Nat.le_trans (by simp) hg.size
 have hown':w3.ownsRow B 32 1 v1 (ws++ns).length (u32s (ws++ns)):=by
  rw [u32s_app,List.length_append]; exact hown
 have hmg:mb≠mg:=M.map.ne_blk M.box
 refine⟨⟨hb3.set_ 2 v1,own_keep hown' (fun q hq=>hset q (fun e=>own_ne_blk hown' hb3 (by decide) (e ▸ hq))),M.map.same ((hset mb hmg).trans (hsame mb M.map.lt (own_ne_map M.own M.map))),M.hg,M.hm⟩,
  ⟨hg.os,hg.tape,hg.output,by simp [World.setCell]; exact hsz,fun q hq hm hv=>(hset q hm).trans (hsame q hq hv),?_⟩⟩
 rcases hat with h | h
 ·exact .inl h
 ·exact .inr ⟨_,h,by simp⟩
theorem mov_clear (M:MovAt w B mg mb hp v ws pl t0 t1 t2 t3 t4):MovAt (w.setCell ⟨mg,7,none⟩ (.int .i64 ((t4:Int)+1))) B mg mb hp v ws pl t0 t1 t2 t3 (t4+1)∧MFr mg v v w (w.setCell ⟨mg,7,none⟩ (.int .i64 ((t4:Int)+1))):=by
 have hset:∀ q,q≠mg→(w.setCell ⟨mg,7,none⟩ (.int .i64 ((t4:Int)+1))).heap[q]? = w.heap[q]? :=fun q hq=>Below.heap_setCell w ⟨mg,7,none⟩ _ q hq
 refine⟨⟨?_,own_keep M.own (fun q hq=>hset q (fun e=>own_ne_blk M.own M.box (by decide) (e ▸ hq))),M.map.same (hset mb (M.map.ne_blk M.box)),M.hg,M.hm⟩,⟨rfl,rfl,rfl,by simp [World.setCell],fun q _ hm _=>hset q hm,.inl rfl⟩⟩
 exact M.box.set_ 7 (.int .i64 ((t4:Int)+1))
end
end
section
open Go.RowKit
attribute [local go_sem] Oper.semAt_some
theorem slice_lhW (wx:World) (ad:Addr) (n c l h:Nat) (h1:l≤h) (h2:h≤c):
 (Instr.slice 84 (.slice (some ad) n c) (some (.int .i64 (l:Int))) (some (.int .i64 (h:Int))) none).run Tryz.prog wx = .ok (.slice (if c=l then some ad else some (ad.add l)) (h-l) (c-l)) wx:=by
 have he:Program.elem Tryz.prog 84=32:=by simp [Program.elem,Tryz.underlying84]
 have hz:∀ w,(Go.sizeOf 32).run Tryz.prog w = .ok 1 w:=fun w=>by go_simp
 rw [run_slice_lh (P:=Tryz.prog) wx 84 (some ad) n c (by rw [he]; exact Tryz.underlying84) .i64 .i64 l h (by omega) (by omega) (by omega),he,hz]
 simp only [Result.andThen,sliced]
 simp
def LayQ (B mg mb:Nat) (hp v:Value) (ws:List Nat) (pl:List (Nat × Nat)) (t0 t1 t2 t3 t4:Nat) (w:World) (e:Ending) (w':World):Prop:=
 e = .returned (.tuple #[])∧∃ v',MovAt w' B mg mb hp v' ws pl t0 t1 t2 t3 t4∧MFr mg v v' w w'
section
variable {w:World} {p:HP} {h:HM} {l:List Ob} {B mg mb go co void:Nat} {v:Value} {ws:List Nat} {pl:List (Nat × Nat)} {t0 t1 t2 t3 t4:Nat}
set_option maxRecDepth 100000 in
set_option maxHeartbeats 8000000 in
theorem lay_any (M:MovAt w B mg mb (ptr p.g) v ws pl t0 t1 t2 t3 t4) (H:HAt w p h) (G:h.Good l) (hs:Spares w) {k:Nat} (hk:k<l.length) (hO:Row w go 32 co (u32s h.words)) (hne:v.ownBlock≠some go) (hB:B≤w.heap.size)
 (hwh:∀ x,x<4294967296→whereM pl x<4294967296) (hvd:void<4294967296) (hwl:ws.length≤1048576) (ht4:t4≤1000000000000):
 Calls Tryz.prog 93 #[.pointer (some ⟨mg,0,none⟩),.int .u32 (2*posOf (l.take k):Nat),.slice (some ⟨go,0,none⟩) h.words.length co,.int .u32 void] w
  (LayQ B mg mb (ptr p.g) v (ws++(relob pl void (l[k])).ws) pl t0 t1 t2 t3 (t4+clearedB pl (l[k])) w):=by
 have L:=G.laid
 rw [split_at l k hk] at L
 have hib:h.isB (2*posOf (l.take k))=true:=isB_at G k hk
 have ho:=isB_u32 G hib
 have HH:=Lib.hid (Header_any H G.fit G.laid.heads hs _ ho)
 have hV:h.headerV (2*posOf (l.take k)) = .tuple #[(l[k]).x.val,.int .i64 0]:=by
  unfold HM.headerV
  rw [hib,half_pos,hd_at' G k hk]; rfl
 rw [hV] at HH
 have HI:=Lib.hid (fun (w':World)=>index_any (2*posOf (l.take k)) ho w')
 have hIV:indexV (2*posOf (l.take k)) = .tuple #[.int .i64 (posOf (l.take k):Nat),.int .i64 0]:=by
  unfold indexV
  rw [objB_pos,half_pos]; rfl
 rw [hIV] at HI
 have K:=L.ok_at
 have hwlen:=L.words_len
 have hroom:=G.fit.room
 have hhi:=G.fit.hi
 have hcow:=hO.len_le
 rw [u32s_len] at hcow
 have hw0:h.words.getD (posOf (l.take k)) 0=(l[k]).x.w0:=by
  have:=L.w_at 0 (by omega)
  rw [Nat.add_zero,ws_0] at this
  exact this
 have hfd:∀ j,j<(l[k]).fs.length→h.words.getD (posOf (l.take k)+3+j) 0=(l[k]).fs.getD j 0:=fun j hj=>by
  have:=L.w_at (3+j) (by omega)
  rw [Nat.add_comm 3 j,ws_f,← Nat.add_assoc] at this
  rw [show posOf (l.take k)+3+j=posOf (l.take k)+j+3 by omega]
  exact this
 have HM:=Lib.hid M
 have hO':=hO
 have HO:=Lib.hid hO
 have HNE:=Lib.hid hne
 have HWH:=Lib.hid hwh
 have HFD:=Lib.hid hfd
 have HW0:=Lib.hid hw0
 have HK:=Lib.hid K
 have hsz:=K.size
 have hcl32:=K.fit.cls
 have hs5:(l[k]).fs.length≤65535:=by
  have:=K.may
  unfold Hd.may at this
  simp at this
  omega
 clear L M H G hs hO hne hwh hfd hw0 K hV hIV hib
 generalize hb:l[k]=b at *
 clear hb
 generalize posOf (l.take k)=at_ at *
 obtain⟨⟨n,t,s,c,r⟩,fs⟩:=b
 simp only at hsz hcl32 hs5 hwlen
 have hwle:at_+3+fs.length≤h.words.length:=by omega
 clear hwlen
 subst hsz
 unfold Hd.val at HH
 unfold ptr at HH ⊢
 go_enter Tryz.func93,Tryz.ntmps93
 have c0:=HM.out.box.cell 0
 unfold ptr at c0
 go_wp2_with fail
 refine HH.out.mono ?_
 rintro e w1 ⟨rfl,hb1⟩
 have hb2:=hb1.alloc hb1.size (.cells #[.int .i64 (fs.length:Int),.int .i64 (t:Int),.int .i64 (s:Int),.int .u32 (c:Int),.int .u32 (r:Int)] 75)
 have BX:=Lib.hid (Blk.new w1 75 #[.int .i64 (fs.length:Int),.int .i64 (t:Int),.int .i64 (s:Int),.int .u32 (c:Int),.int .u32 (r:Int)])
 have HB2:=Lib.hid hb2
 have hg8:w.heap.size≤w1.heap.size:=hb1.size
 clear c0 hb1 hb2 HH
 go_upto_region 1 with fail
 generalize w1.alloc (.cells #[.int .i64 (fs.length:Int),.int .i64 (t:Int),.int .i64 (s:Int),.int .u32 (c:Int),.int .u32 (r:Int)] 75)=W2 at *
 generalize w1.heap.size=b8 at *
 go_wp2_with fail
 refine (HI.out W2).mono ?_
 rintro e w3 ⟨rfl,rfl⟩
 obtain⟨x0,x1,x2,x3,x4⟩:=BX.out.cells5
 have HM2:=Lib.hid (HM.out.below HB2.out)
 have HWC:=Lib.hid (where_any HM2.out hcl32)
 go_wp2_with fail
 refine HWC.out.mono ?_
 rintro e w4 ⟨rfl,rfl⟩
 go_upto_region 3 with fail
 have hw0c:=HO.out.below HB2.out
 have hlt0:at_<h.words.length:=by omega
 have hcw:=hw0c.cell (u32s_get (l:=h.words) (i:=at_) hlt0)
 rw [HW0.out] at hcw
 have HOW:=Lib.hid hw0c
 obtain⟨i0,hi0,hz0,hz1,hz2⟩:=info_parts info_u32
 have HCN:=Lib.hid (HWH.out c hcl32)
 have HCL:=Lib.hid (show clearedB pl ⟨⟨fs.length,t,s,c,r⟩,fs⟩=if Hd.ptrB ⟨fs.length,t,s,c,r⟩=true then (fs.filter (deadB pl)).length else 0 from rfl)
 have HRL:=Lib.hid (show (relob pl void ⟨⟨fs.length,t,s,c,r⟩,fs⟩).ws=[Hd.w0 ⟨fs.length,t,s,c,r⟩,whereM pl c,r]++(if Hd.ptrB ⟨fs.length,t,s,c,r⟩=true then fs.map (fldM pl void) else fs) by unfold relob Ob.ws Hd.w0; simp only; split <;> rfl)
 have HMF:=Lib.hid (show MFr mg v v w W2 from MFr.of_below HB2.out)
 have HMG:=Lib.hid (show mg<b8 from Nat.lt_of_lt_of_le HM.out.box.lt hg8)
 have hmg2:mg≠go:=fun e=>(hO'.ne_blk HM.out.box (by decide)) e.symm
 generalize Hd.w0 ⟨fs.length,t,s,c,r⟩=w0 at *
 generalize hcm:whereM pl c=c' at *
 generalize relob pl void ⟨⟨fs.length,t,s,c,r⟩,fs⟩=RB at *
 generalize clearedB pl ⟨⟨fs.length,t,s,c,r⟩,fs⟩=CB at *
 clear hcm HWC HW0 HM
 refine wp_region_U 16 (fun w'=>w'.cell? ⟨mg,2,none⟩=some v∧w'.cell? ⟨go,at_,none⟩=some (.int .u32 (w0:Int))∧w'.cell? ⟨b8,4,none⟩=some (.int .u32 (r:Int))) (by kernel_rfl) ?_
 have HMq:=Lib.hid HM2.out.drew
 have HOq:=Lib.hid (show Row W2.drew go 32 co (u32s h.words) from HOW.out)
 have BXq:=Lib.hid (show Blk W2.drew b8 75 #[.int .i64 (fs.length:Int),.int .i64 (t:Int),.int .i64 (s:Int),.int .u32 (c:Int),.int .u32 (r:Int)] from BX.out)
 have HFq:=Lib.hid (show MFr mg v v w W2.drew from HMF.out.trans (MFr.of_below ⟨rfl,rfl,rfl,Nat.le_refl _,fun _ _=>rfl⟩))
 have hcw2:W2.drew.cell? ⟨go,at_,none⟩=some (.int .u32 (w0:Int)):=hcw
 clear x0 x1 x2 x3 x4 HM2 HOW BX HMF hcw HB2
 generalize W2.drew=wq at *
 have hS:wq.cell? ⟨mg,2,none⟩=some v∧wq.cell? ⟨go,at_,none⟩=some (.int .u32 (w0:Int))∧wq.cell? ⟨b8,4,none⟩=some (.int .u32 (r:Int)):=⟨HMq.out.box.cell 2,hcw2,BXq.out.cell 4⟩
 refine U_read 0 (v:=(.pointer (some ⟨mg,0,none⟩))) rfl (by kernel_rfl) (fun _ _ _ h=>h) hS (by rfl) (fun w' hw'=>by obtain⟨h0,h1,h2⟩:=hw'; go_simp) ?_
 try simp only [Act.put,List.setIfInBounds_toArray,List.set_cons_zero,List.set_cons_succ]
 refine U_read 1 (v:=(.pointer (some ⟨mg,0,none⟩))) rfl (by kernel_rfl) (fun _ _ _ h=>h) hS (by rfl) (fun w' hw'=>by obtain⟨h0,h1,h2⟩:=hw'; go_simp) ?_
 try simp only [Act.put,List.setIfInBounds_toArray,List.set_cons_zero,List.set_cons_succ]
 refine U_read 2 (v:=(.pointer (some ⟨mg,0,none⟩))) rfl (by kernel_rfl) (fun _ _ _ h=>h) hS (by rfl) (fun w' hw'=>by obtain⟨h0,h1,h2⟩:=hw'; go_simp) ?_
 try simp only [Act.put,List.setIfInBounds_toArray,List.set_cons_zero,List.set_cons_succ]
 refine U_read 3 (v:=(.pointer (some ⟨mg,2,none⟩))) rfl (by kernel_rfl) (fun _ _ _ h=>h) hS (by rfl) (fun w' hw'=>by obtain⟨h0,h1,h2⟩:=hw'; go_simp) ?_
 try simp only [Act.put,List.setIfInBounds_toArray,List.set_cons_zero,List.set_cons_succ]
 refine U_read 4 (v:=v) rfl (by kernel_rfl) (fun _ _ _ h=>h) hS (by rfl) (fun w' hw'=>by obtain⟨h0,h1,h2⟩:=hw'; go_simp) ?_
 try simp only [Act.put,List.setIfInBounds_toArray,List.set_cons_zero,List.set_cons_succ]
 refine U_read 5 (v:=(.slice (some ⟨go,0,none⟩) h.words.length co)) rfl (by kernel_rfl) (fun _ _ _ h=>h) hS (by rfl) (fun w' hw'=>by obtain⟨h0,h1,h2⟩:=hw'; go_simp) ?_
 try simp only [Act.put,List.setIfInBounds_toArray,List.set_cons_zero,List.set_cons_succ]
 refine U_read 6 (v:=(.int .i64 (at_:Int))) rfl (by kernel_rfl) (fun _ _ _ h=>h) hS (by rfl) (fun w' hw'=>by obtain⟨h0,h1,h2⟩:=hw'; go_simp) ?_
 try simp only [Act.put,List.setIfInBounds_toArray,List.set_cons_zero,List.set_cons_succ]
 refine U_read 7 (v:=(.pointer (some ⟨go,at_,none⟩))) rfl (by kernel_rfl) (fun _ _ _ h=>h) hS (by rfl) (fun w' hw'=>by obtain⟨h0,h1,h2⟩:=hw'; go_simp) ?_
 try simp only [Act.put,List.setIfInBounds_toArray,List.set_cons_zero,List.set_cons_succ]
 refine U_read 8 (v:=(.int .u32 (w0:Int))) rfl (by kernel_rfl) (fun _ _ _ h=>h) hS (by rfl) (fun w' hw'=>by obtain⟨h0,h1,h2⟩:=hw'; go_simp) ?_
 try simp only [Act.put,List.setIfInBounds_toArray,List.set_cons_zero,List.set_cons_succ]
 refine U_read 9 (v:=(.int .u32 (c':Int))) rfl (by kernel_rfl) (fun _ _ _ h=>h) hS (by rfl) (fun w' hw'=>by obtain⟨h0,h1,h2⟩:=hw'; go_simp) ?_
 try simp only [Act.put,List.setIfInBounds_toArray,List.set_cons_zero,List.set_cons_succ]
 refine U_read 10 (v:=(.pointer (some ⟨b8,4,none⟩))) rfl (by kernel_rfl) (fun _ _ _ h=>h) hS (by rfl) (fun w' hw'=>by obtain⟨h0,h1,h2⟩:=hw'; go_simp) ?_
 try simp only [Act.put,List.setIfInBounds_toArray,List.set_cons_zero,List.set_cons_succ]
 refine U_read 11 (v:=(.int .u32 (r:Int))) rfl (by kernel_rfl) (fun _ _ _ h=>h) hS (by rfl) (fun w' hw'=>by obtain⟨h0,h1,h2⟩:=hw'; go_simp) ?_
 try simp only [Act.put,List.setIfInBounds_toArray,List.set_cons_zero,List.set_cons_succ]
 refine U_one 12 (by kernel_rfl) rfl rfl (fun K hK=>?_)
 go_simp
 have HMA:=Lib.hid (HMq.out.below ((Below.refl _ _).alloc (Nat.le_refl _) (.cells #[.int .u32 (w0:Int),.int .u32 (c':Int),.int .u32 (r:Int)] 32)))
 have hSA:(wq.alloc (.cells #[.int .u32 (w0:Int),.int .u32 (c':Int),.int .u32 (r:Int)] 32)).cell? ⟨mg,2,none⟩=some v∧(wq.alloc (.cells #[.int .u32 (w0:Int),.int .u32 (c':Int),.int .u32 (r:Int)] 32)).cell? ⟨go,at_,none⟩=some (.int .u32 (w0:Int))∧(wq.alloc (.cells #[.int .u32 (w0:Int),.int .u32 (c':Int),.int .u32 (r:Int)] 32)).cell? ⟨b8,4,none⟩=some (.int .u32 (r:Int)):=
  ⟨HMA.out.box.cell 2,(World.cell?_of_block (Below.heap_alloc wq _ go HOq.out.lt)).trans hS.2.1,(World.cell?_of_block (Below.heap_alloc wq _ b8 BXq.out.lt)).trans hS.2.2⟩
 refine hK _ _ (fun _=>hSA) ?_
 clear hK K
 try simp only [Act.put,List.setIfInBounds_toArray,List.set_cons_zero,List.set_cons_succ]
 refine U_one 13 (by kernel_rfl) rfl rfl (fun K hK=>?_)
 refine wp_append_any _ (.tmp 43) (.tmp 51) _ rfl B 32 i0 _ 1 4 Tryz.underlying84 hi0 hz0 hz1 hz2 rfl (by omega) v ws.length (u32s ws) rfl HMA.out.own (wq.heap.size+1) (some ⟨wq.heap.size,0,none⟩) 3 3 (u32s [w0,c',r]) rfl ⟨rfl,fun _=>⟨_,rfl,by simp,fun j u hu=>by
  rw [WideShapes.add_plain,Nat.zero_add]
  refine ((Blk.new wq 32 #[.int .u32 (w0:Int),.int .u32 (c':Int),.int .u32 (r:Int)]).cell j).trans ?_
  rw [← hu]
  simp [u32s]⟩⟩ (one_u32s _) (by simp only [maxLen]; omega) (by omega) (by have:=HFq.out.size; simp; omega) ?_
 intro v5 w5 hown5 hg5 hat5
 obtain⟨A5,c5,rfl⟩:=own_val hown5
 have hb5:=mov_at HMq.out hg5
 have HS5:=Lib.hid (mov_set (ns:=[w0,c',r]) HMq.out hown5 hg5 hat5)
 have hfz:=hb5.frozen 2
 have hcu:=hb5.cell 2
 have hsame5:∀ q,q<wq.heap.size→v.ownBlock≠some q→w5.heap[q]? = wq.heap[q]? :=fun q hq hn=>(hg5.block q (by simp; omega) (fun e=>hn (by first | exact e | exact e.symm))).trans (Below.heap_alloc wq _ q hq)
 have hS5:w5.cell? ⟨mg,2,none⟩=some v∧w5.cell? ⟨go,at_,none⟩=some (.int .u32 (w0:Int))∧w5.cell? ⟨b8,4,none⟩=some (.int .u32 (r:Int)):=
  ⟨hcu,(World.cell?_of_block (hsame5 go HOq.out.lt HNE.out)).trans hS.2.1,(World.cell?_of_block (hsame5 b8 BXq.out.lt (own_ne_blk HMq.out.own BXq.out (by decide)))).trans hS.2.2⟩
 have hn8:v.ownBlock≠some b8:=own_ne_blk HMq.out.own BXq.out (by decide)
 clear hb5 hown5 hg5 hat5 HMA hsame5
 refine hK _ _ (fun _=>hS5) ?_
 clear hK K
 try simp only [Act.put,List.setIfInBounds_toArray,List.set_cons_zero,List.set_cons_succ]
 refine U_one 14 (by kernel_rfl) rfl rfl (fun K hK=>?_)
 go_simp
 refine hK _ _ (fun _=>hS5) ?_
 clear hK K
 try simp only [Act.put,List.setIfInBounds_toArray,List.set_cons_zero,List.set_cons_succ]
 refine U_one 15 (by kernel_rfl) rfl rfl (fun K hK=>?_)
 go_simp
 refine hK _ _ (fun _=>hS5) ?_
 clear hK K
 try simp only [Act.put,List.setIfInBounds_toArray,List.set_cons_zero,List.set_cons_succ]
 refine U_one 16 (by kernel_rfl) rfl rfl (fun K hK=>?_)
 go_simp
 refine hK _ _ (fun h=>absurd h (by decide)) ?_
 clear hK K
 try simp only [Act.put,List.setIfInBounds_toArray,List.set_cons_zero,List.set_cons_succ]
 refine U_done (by kernel_rfl) ?_ _
 simp only [Calm,Exit.then]
 have hmg8:b8≠mg:=by have:=HMG.out; omega
 obtain⟨hrow6,hne6⟩:=HS5.out.2.row HOq.out (fun e=>hmg2 e.symm) HNE.out
 have HO6:=Lib.hid hrow6
 have HN6:=Lib.hid hne6
 have BX6:=Lib.hid (HS5.out.2.blk' BXq.out hmg8 hn8)
 have HM6:=Lib.hid HS5.out.1
 have HF6:=Lib.hid (HFq.out.trans HS5.out.2)
 clear hrow6 hne6 hS hSA hS5 hfz hcu HS5 HOq BXq HMq HFq hn8 hcw2
 generalize w5.setCell ⟨mg,2,none⟩ (.slice A5 (ws.length+3) c5)=W6 at *
 generalize (Value.slice A5 (ws.length+3) c5)=v6 at *
 obtain⟨x0,x1,x2,x3,x4⟩:=BX6.out.cells5
 have hsl:=fun (wx:World)=>slice_lhW wx ⟨go,0,none⟩ h.words.length co (at_+3) (at_+3+fs.length) (by omega) (by omega)
 obtain⟨A7,hA7⟩ :∃ A7,A7=(if co=at_+3 then some (⟨go,0,none⟩ :Addr) else some ((⟨go,0,none⟩ :Addr).add (at_+3))):=⟨_,rfl⟩
 rw [← hA7,show at_+3+fs.length-(at_+3)=fs.length by omega] at hsl
 have HA7:=Lib.hid (show 0<fs.length→A7=some ⟨go,at_+3,none⟩ from fun h0=>by
  rw [hA7,if_neg (by omega),WideShapes.add_plain,Nat.zero_add])
 have e1:((at_+3:Nat):Int)=(at_:Int)+3:=by push_cast; rfl
 have e2:((at_+3+fs.length:Nat):Int)=(at_:Int)+3+(fs.length:Int):=by push_cast; rfl
 rw [e1,e2] at hsl
 clear e1 e2 hA7
 obtain⟨Fm,hFm⟩ :∃ Fm:Nat→Nat,∀ x,Fm x=if Hd.ptrB ⟨fs.length,t,s,c,r⟩=true then fldM pl void x else x:=⟨_,fun _=>rfl⟩
 obtain⟨Df,hDf⟩ :∃ Df:Nat→Bool,∀ x,Df x=(Hd.ptrB ⟨fs.length,t,s,c,r⟩ && deadB pl x):=⟨_,fun _=>rfl⟩
 have HRW:=Lib.hid (show RB.ws=[w0,c',r]++fs.map Fm by
  rw [HRL.out]
  congr 1
  by_cases hp:Hd.ptrB ⟨fs.length,t,s,c,r⟩=true
  ·rw [if_pos hp]; exact List.map_congr_left (fun x _=>by rw [hFm,if_pos hp])
  ·rw [if_neg hp]
   have:fs.map Fm=fs.map id:=List.map_congr_left (fun x _=>by rw [hFm,if_neg hp]; rfl)
   rw [this,List.map_id])
 have HCW:=Lib.hid (show CB=(fs.filter Df).length by
  rw [HCL.out]
  by_cases hp:Hd.ptrB ⟨fs.length,t,s,c,r⟩=true
  ·rw [if_pos hp]; congr 1; exact List.filter_congr (fun x _=>by rw [hDf,hp]; rfl)
  ·rw [if_neg hp]
   have:fs.filter Df=[]:=List.filter_eq_nil_iff.2 (fun x _=>by rw [hDf]; simp [hp])
   rw [this]; rfl)
 have HFm:=Lib.hid hFm
 have HDf:=Lib.hid hDf
 have HPB:=Lib.hid (show Hd.ptrB ⟨fs.length,t,s,c,r⟩=(decide (t=1) || decide (t=4)) from rfl)
 have H32:=Lib.hid HK.out.f32
 clear hFm hDf HRL HCL HK
 go_wp2_with fail
 clear x0 x1 x2 x3 x4
 go_loopw [15,16,17,65] (fun _ _ _ iv wr=>∃ (k:Nat) (v':Value),iv = .int .i64 k∧k≤fs.length∧MovAt wr B mg mb (ptr p.g) v' ((ws++[w0,c',r])++(fs.take k).map Fm) pl t0 t1 t2 t3 (t4+((fs.take k).filter Df).length)∧Row wr go 32 co (u32s h.words)∧v'.ownBlock≠some go∧Blk wr b8 75 #[.int .i64 (fs.length:Int),.int .i64 (t:Int),.int .i64 (s:Int),.int .u32 (c:Int),.int .u32 (r:Int)]∧MFr mg v v' w wr) (fun _ _ _ iv _=>fs.length-(intOf iv).toNat)
 case atStart=>exact⟨0,v6,rfl,by omega,by simpa using HM6.out,HO6.out,HN6.out,BX6.out,HF6.out⟩
 case round=>
  clear HM6 HO6 HN6 BX6 HF6
  obtain⟨k,v',rfl,hk,hm,hro,hnv,hbx,hf⟩:=hrel
  have HM:=Lib.hid hm
  have HRO:=Lib.hid hro
  have HNV:=Lib.hid hnv
  have HBX:=Lib.hid hbx
  have HF:=Lib.hid hf
  clear hm hro hnv hbx hf
  by_cases hlt:k<fs.length
  ·have hA:=HA7.out (by omega)
   subst hA
   have hlt2:at_+3+k<h.words.length:=by omega
   have hcl:=HRO.out.cell (u32s_get (l:=h.words) (i:=at_+3+k) hlt2)
   rw [HFD.out k hlt] at hcl
   have hx32:fs.getD k 0<4294967296:=getD_u32 H32.out k
   have hfl:((fs.take k).filter Df).length≤65535:=by have:=List.length_filter_le Df (fs.take k); rw [List.length_take] at this; omega
   have hwsl:((ws++[w0,c',r])++(fs.take k).map Fm).length≤2000000:=by simp; omega
   have HNX:=Lib.hid (show (ws++[w0,c',r])++(fs.take (k+1)).map Fm=((ws++[w0,c',r])++(fs.take k).map Fm)++[Fm (fs.getD k 0)] by
    rw [List.take_add_one,List.getElem?_eq_getElem hlt,List.map_append,List.append_assoc,List.append_assoc,List.append_assoc,List.getD_eq_getElem?_getD,List.getElem?_eq_getElem hlt]; rfl)
   have HCX:=Lib.hid (show t4+((fs.take (k+1)).filter Df).length=t4+((fs.take k).filter Df).length+(if Df (fs.getD k 0)=true then 1 else 0) by
    rw [List.take_add_one,List.getElem?_eq_getElem hlt,List.filter_append,List.length_append,List.getD_eq_getElem?_getD,List.getElem?_eq_getElem hlt]
    simp only [Option.toList_some,Option.getD_some,List.filter_cons,List.filter_nil]
    split <;> simp <;> omega)
   have HT4:=Lib.hid (show t4+((fs.take k).filter Df).length≤1000000065535 by omega)
   generalize fs.getD k 0=x at *
   generalize (ws++[w0,c',r])++(fs.take k).map Fm=WS at *
   generalize t4+((fs.take k).filter Df).length=T at *
   have hc1:=HBX.out.cell 1
   have hm2:=HM.out.box.cell 2
   have hBw:B≤wr.heap.size:=by have:=HF.out.size; omega
   have hg8m:b8≠mg:=by have:=HMG.out; omega
   by_cases h1:t=1
   ·by_cases hdd:deadB pl x=true
    ·skip
     have hi1:((t:Int) == 1)=true:=by simp; omega
     have hpb:Hd.ptrB ⟨fs.length,t,s,c,r⟩=true:=by rw [HPB.out]; simp [h1]
     have HY:=Lib.hid (show Fm x=void by
      rw [HFm.out,hpb,if_pos rfl]
      unfold fldM deadB at *
      rw [if_pos (of_decide_eq_true hdd)])
     have HD:=Lib.hid (show (if Df x=true then 1 else 0)=1 by rw [HDf.out,hpb,hdd]; rfl)
     have HWX:=Lib.hid (where_any HM.out hx32)
     rw [hdd] at HWX
     have HC7:=Lib.hid (mov_clear HM.out)
     have hz7:=HM.out.box.frozen 7
     have hm7:=HM.out.box.cell 7
     have hT:=HT4.out
     generalize whereM pl x=wx at HWX
     clear hpb hdd h1
     go_wp2_with fail
     refine HWX.out.mono ?_
     rintro e w7 ⟨rfl,rfl⟩
     have HF7:=Lib.hid (HF.out.trans HC7.out.2)
     have HR7:=Lib.hid (HC7.out.2.row HRO.out (fun e=>hmg2 e.symm) HNV.out)
     have HX7:=Lib.hid (HC7.out.2.blk' HBX.out hg8m (own_ne_blk HM.out.own HBX.out (by decide)))
     have HM7:=Lib.hid HC7.out.1
     have HRA:=Lib.hid HR7.out.1
     have HRB:=Lib.hid HR7.out.2
     go_upto_region 12 with fail
     clear hcl hm7 hz7 hm2 hc1 HWX HC7
     generalize wr.setCell ⟨mg,7,none⟩ (.int .i64 ((T:Int)+1))=W7 at *
     have hm2':=HM7.out.box.cell 2
     have hBw':B≤W7.heap.size:=by have:=HF7.out.size; omega
     go_wp2_with (at_builtin; refine wpList_append_any _ rfl (.tmp 100) (.tmp 102) _ rfl B 32 i0 _ 1 4 Tryz.underlying84 hi0 hz0 hz1 hz2 rfl (by omega) v' WS.length _ rfl (own_keep HM7.out.own (fun q hq=>Below.heap_alloc W7 (.cells #[.int .u32 (void:Int)] 32) q (HM7.out.own.lt q hq).2)) (W7.heap.size+1) (some ⟨W7.heap.size,0,none⟩) 1 1 (u32s [void]) rfl ⟨rfl,fun _=>⟨_,rfl,by simp,cell_one_new _ _ _⟩⟩ (one_u32s _) (by simp only [maxLen]; omega) (by omega) (by simp; omega) ?_; intro v8 w8 hown8 hgrow8 hat8; obtain⟨A8,c8,rfl⟩:=own_val hown8; have HS8:=Lib.hid (mov_set (ns:=[void]) HM7.out hown8 hgrow8 hat8); have hb8:=mov_at HM7.out hgrow8; have hz8:=hb8.frozen 2; have hc8:=hb8.cell 2; clear hown8 hgrow8 hat8 hb8)
     have HF8:=Lib.hid (HF7.out.trans HS8.out.2)
     have HR8:=Lib.hid (HS8.out.2.row HRA.out (fun e=>hmg2 e.symm) HRB.out)
     have HX8:=Lib.hid (HS8.out.2.blk' HX7.out hg8m (own_ne_blk HM7.out.own HX7.out (by decide)))
     have HM8:=Lib.hid HS8.out.1
     go_wp2_with fail
     go_roundw
     case rel=>exact⟨k+1,_,by go_num,by omega,by rw [HNX.out,HCX.out,HY.out,HD.out]; exact HM8.out,HR8.out.1,HR8.out.2,HX8.out,HF8.out⟩
     case measure=>simp [intOf]; omega
    ·have hdd:deadB pl x=false:=by simpa using hdd
     have hi1:((t:Int) == 1)=true:=by simp; omega
     have hpb:Hd.ptrB ⟨fs.length,t,s,c,r⟩=true:=by rw [HPB.out]; simp [h1]
     have HY:=Lib.hid (show Fm x=whereM pl x by
      rw [HFm.out,hpb,if_pos rfl]
      unfold fldM
      rw [if_neg (fun e=>by unfold deadB at hdd; rw [decide_eq_true e] at hdd; cases hdd)])
     have HD:=Lib.hid (show (if Df x=true then 1 else 0)=0 by rw [HDf.out,hpb,hdd]; rfl)
     have HWX:=Lib.hid (where_any HM.out hx32)
     rw [hdd] at HWX
     generalize whereM pl x=wx at *
     clear hpb hdd h1
     go_wp2_with fail
     refine HWX.out.mono ?_
     rintro e w7 ⟨rfl,rfl⟩
     clear hcl
     have hm2':=HM.out.box.cell 2
     have hBw':B≤wr.heap.size:=by have:=HF.out.size; omega
     go_wp2_with (at_builtin; refine wpList_append_any _ rfl (.tmp 100) (.tmp 102) _ rfl B 32 i0 _ 1 4 Tryz.underlying84 hi0 hz0 hz1 hz2 rfl (by omega) v' WS.length _ rfl (own_keep HM.out.own (fun q hq=>Below.heap_alloc wr (.cells #[.int .u32 (wx:Int)] 32) q (HM.out.own.lt q hq).2)) (wr.heap.size+1) (some ⟨wr.heap.size,0,none⟩) 1 1 (u32s [wx]) rfl ⟨rfl,fun _=>⟨_,rfl,by simp,cell_one_new _ _ _⟩⟩ (one_u32s _) (by simp only [maxLen]; omega) (by omega) (by simp; omega) ?_; intro v8 w8 hown8 hgrow8 hat8; obtain⟨A8,c8,rfl⟩:=own_val hown8; have HS8:=Lib.hid (mov_set (ns:=[wx]) HM.out hown8 hgrow8 hat8); have hb8:=mov_at HM.out hgrow8; have hz8:=hb8.frozen 2; have hc8:=hb8.cell 2; clear hown8 hgrow8 hat8 hb8)
     have HF8:=Lib.hid (HF.out.trans HS8.out.2)
     have HR8:=Lib.hid (HS8.out.2.row HRO.out (fun e=>hmg2 e.symm) HNV.out)
     have HX8:=Lib.hid (HS8.out.2.blk' HBX.out hg8m (own_ne_blk HM.out.own HBX.out (by decide)))
     have HM8:=Lib.hid HS8.out.1
     go_wp2_with fail
     go_roundw
     case rel=>exact⟨k+1,_,by go_num,by omega,by rw [HNX.out,HCX.out,HY.out,HD.out]; exact HM8.out,HR8.out.1,HR8.out.2,HX8.out,HF8.out⟩
     case measure=>simp [intOf]; omega
   by_cases h4:t=4
   ·by_cases hdd:deadB pl x=true
    ·skip
     have hi1:((t:Int) == 1)=false:=by simp; omega
     have hi4:((t:Int) == 4)=true:=by simp; omega
     have hpb:Hd.ptrB ⟨fs.length,t,s,c,r⟩=true:=by rw [HPB.out]; simp [h4]
     have HY:=Lib.hid (show Fm x=void by
      rw [HFm.out,hpb,if_pos rfl]
      unfold fldM deadB at *
      rw [if_pos (of_decide_eq_true hdd)])
     have HD:=Lib.hid (show (if Df x=true then 1 else 0)=1 by rw [HDf.out,hpb,hdd]; rfl)
     have HWX:=Lib.hid (where_any HM.out hx32)
     rw [hdd] at HWX
     have HC7:=Lib.hid (mov_clear HM.out)
     have hz7:=HM.out.box.frozen 7
     have hm7:=HM.out.box.cell 7
     have hT:=HT4.out
     generalize whereM pl x=wx at HWX
     clear hpb hdd h4 h1
     go_wp2_with fail
     refine HWX.out.mono ?_
     rintro e w7 ⟨rfl,rfl⟩
     have HF7:=Lib.hid (HF.out.trans HC7.out.2)
     have HR7:=Lib.hid (HC7.out.2.row HRO.out (fun e=>hmg2 e.symm) HNV.out)
     have HX7:=Lib.hid (HC7.out.2.blk' HBX.out hg8m (own_ne_blk HM.out.own HBX.out (by decide)))
     have HM7:=Lib.hid HC7.out.1
     have HRA:=Lib.hid HR7.out.1
     have HRB:=Lib.hid HR7.out.2
     go_upto_region 12 with fail
     clear hcl hm7 hz7 hm2 hc1 HWX HC7
     generalize wr.setCell ⟨mg,7,none⟩ (.int .i64 ((T:Int)+1))=W7 at *
     have hm2':=HM7.out.box.cell 2
     have hBw':B≤W7.heap.size:=by have:=HF7.out.size; omega
     go_wp2_with (at_builtin; refine wpList_append_any _ rfl (.tmp 100) (.tmp 102) _ rfl B 32 i0 _ 1 4 Tryz.underlying84 hi0 hz0 hz1 hz2 rfl (by omega) v' WS.length _ rfl (own_keep HM7.out.own (fun q hq=>Below.heap_alloc W7 (.cells #[.int .u32 (void:Int)] 32) q (HM7.out.own.lt q hq).2)) (W7.heap.size+1) (some ⟨W7.heap.size,0,none⟩) 1 1 (u32s [void]) rfl ⟨rfl,fun _=>⟨_,rfl,by simp,cell_one_new _ _ _⟩⟩ (one_u32s _) (by simp only [maxLen]; omega) (by omega) (by simp; omega) ?_; intro v8 w8 hown8 hgrow8 hat8; obtain⟨A8,c8,rfl⟩:=own_val hown8; have HS8:=Lib.hid (mov_set (ns:=[void]) HM7.out hown8 hgrow8 hat8); have hb8:=mov_at HM7.out hgrow8; have hz8:=hb8.frozen 2; have hc8:=hb8.cell 2; clear hown8 hgrow8 hat8 hb8)
     have HF8:=Lib.hid (HF7.out.trans HS8.out.2)
     have HR8:=Lib.hid (HS8.out.2.row HRA.out (fun e=>hmg2 e.symm) HRB.out)
     have HX8:=Lib.hid (HS8.out.2.blk' HX7.out hg8m (own_ne_blk HM7.out.own HX7.out (by decide)))
     have HM8:=Lib.hid HS8.out.1
     go_wp2_with fail
     go_roundw
     case rel=>exact⟨k+1,_,by go_num,by omega,by rw [HNX.out,HCX.out,HY.out,HD.out]; exact HM8.out,HR8.out.1,HR8.out.2,HX8.out,HF8.out⟩
     case measure=>simp [intOf]; omega
    ·have hdd:deadB pl x=false:=by simpa using hdd
     have hi1:((t:Int) == 1)=false:=by simp; omega
     have hi4:((t:Int) == 4)=true:=by simp; omega
     have hpb:Hd.ptrB ⟨fs.length,t,s,c,r⟩=true:=by rw [HPB.out]; simp [h4]
     have HY:=Lib.hid (show Fm x=whereM pl x by
      rw [HFm.out,hpb,if_pos rfl]
      unfold fldM
      rw [if_neg (fun e=>by unfold deadB at hdd; rw [decide_eq_true e] at hdd; cases hdd)])
     have HD:=Lib.hid (show (if Df x=true then 1 else 0)=0 by rw [HDf.out,hpb,hdd]; rfl)
     have HWX:=Lib.hid (where_any HM.out hx32)
     rw [hdd] at HWX
     generalize whereM pl x=wx at *
     clear hpb hdd h4 h1
     go_wp2_with fail
     refine HWX.out.mono ?_
     rintro e w7 ⟨rfl,rfl⟩
     clear hcl
     have hm2':=HM.out.box.cell 2
     have hBw':B≤wr.heap.size:=by have:=HF.out.size; omega
     go_wp2_with (at_builtin; refine wpList_append_any _ rfl (.tmp 100) (.tmp 102) _ rfl B 32 i0 _ 1 4 Tryz.underlying84 hi0 hz0 hz1 hz2 rfl (by omega) v' WS.length _ rfl (own_keep HM.out.own (fun q hq=>Below.heap_alloc wr (.cells #[.int .u32 (wx:Int)] 32) q (HM.out.own.lt q hq).2)) (wr.heap.size+1) (some ⟨wr.heap.size,0,none⟩) 1 1 (u32s [wx]) rfl ⟨rfl,fun _=>⟨_,rfl,by simp,cell_one_new _ _ _⟩⟩ (one_u32s _) (by simp only [maxLen]; omega) (by omega) (by simp; omega) ?_; intro v8 w8 hown8 hgrow8 hat8; obtain⟨A8,c8,rfl⟩:=own_val hown8; have HS8:=Lib.hid (mov_set (ns:=[wx]) HM.out hown8 hgrow8 hat8); have hb8:=mov_at HM.out hgrow8; have hz8:=hb8.frozen 2; have hc8:=hb8.cell 2; clear hown8 hgrow8 hat8 hb8)
     have HF8:=Lib.hid (HF.out.trans HS8.out.2)
     have HR8:=Lib.hid (HS8.out.2.row HRO.out (fun e=>hmg2 e.symm) HNV.out)
     have HX8:=Lib.hid (HS8.out.2.blk' HBX.out hg8m (own_ne_blk HM.out.own HBX.out (by decide)))
     have HM8:=Lib.hid HS8.out.1
     go_wp2_with fail
     go_roundw
     case rel=>exact⟨k+1,_,by go_num,by omega,by rw [HNX.out,HCX.out,HY.out,HD.out]; exact HM8.out,HR8.out.1,HR8.out.2,HX8.out,HF8.out⟩
     case measure=>simp [intOf]; omega
   ·skip
    have hi1:((t:Int) == 1)=false:=by simp; omega
    have hi4:((t:Int) == 4)=false:=by simp; omega
    have hpb:Hd.ptrB ⟨fs.length,t,s,c,r⟩=false:=by rw [HPB.out]; simp [h1,h4]
    have HY:=Lib.hid (show Fm x=x by rw [HFm.out,hpb]; rfl)
    have HD:=Lib.hid (show (if Df x=true then 1 else 0)=0 by rw [HDf.out,hpb]; rfl)
    clear hpb h1 h4
    have hm2':=HM.out.box.cell 2
    have hBw':B≤wr.heap.size:=by have:=HF.out.size; omega
    go_wp2_with (at_builtin; refine wpList_append_any _ rfl (.tmp 100) (.tmp 102) _ rfl B 32 i0 _ 1 4 Tryz.underlying84 hi0 hz0 hz1 hz2 rfl (by omega) v' WS.length _ rfl (own_keep HM.out.own (fun q hq=>Below.heap_alloc wr (.cells #[.int .u32 (x:Int)] 32) q (HM.out.own.lt q hq).2)) (wr.heap.size+1) (some ⟨wr.heap.size,0,none⟩) 1 1 (u32s [x]) rfl ⟨rfl,fun _=>⟨_,rfl,by simp,cell_one_new _ _ _⟩⟩ (one_u32s _) (by simp only [maxLen]; omega) (by omega) (by simp; omega) ?_; intro v8 w8 hown8 hgrow8 hat8; obtain⟨A8,c8,rfl⟩:=own_val hown8; have HS8:=Lib.hid (mov_set (ns:=[x]) HM.out hown8 hgrow8 hat8); have hb8:=mov_at HM.out hgrow8; have hz8:=hb8.frozen 2; have hc8:=hb8.cell 2; clear hown8 hgrow8 hat8 hb8)
    have HF8:=Lib.hid (HF.out.trans HS8.out.2)
    have HR8:=Lib.hid (HS8.out.2.row HRO.out (fun e=>hmg2 e.symm) HNV.out)
    have HX8:=Lib.hid (HS8.out.2.blk' HBX.out hg8m (own_ne_blk HM.out.own HBX.out (by decide)))
    have HM8:=Lib.hid HS8.out.1
    go_wp2_with fail
    go_roundw
    case rel=>exact⟨k+1,_,by go_num,by omega,by rw [HNX.out,HCX.out,HY.out,HD.out]; exact HM8.out,HR8.out.1,HR8.out.2,HX8.out,HF8.out⟩
    case measure=>simp [intOf]; omega
  ·obtain rfl:k=fs.length:=by omega
   have hE:=HM.out
   rw [List.take_length] at hE
   have HE:=Lib.hid (show MovAt wr B mg mb (ptr p.g) v' (ws++RB.ws) pl t0 t1 t2 t3 (t4+CB) by rw [HRW.out,HCW.out,← List.append_assoc]; exact hE)
   clear hE HM
   go_wp2_with fail
   refine bodyPost_end (v:=.tuple #[]) (by simp [results,Tryz.results93,go_sem]) rfl ?_
   exact⟨rfl,v',HE.out,HF.out⟩
end
end
section
open Go.RowKit
attribute [local go_sem] Oper.semAt_some
structure Fr2 (a b:Nat) (w w':World):Prop where
 os:w'.os=w.os
 tape:w'.tape=w.tape
 output:w'.output=w.output
 size:w.heap.size≤w'.heap.size
 same:∀ k,k<w.heap.size→k≠a→k≠b→w'.heap[k]? = w.heap[k]?
theorem Fr2.refl (a b:Nat) (w:World):Fr2 a b w w:=⟨rfl,rfl,rfl,Nat.le_refl _,fun _ _ _ _=>rfl⟩
theorem Fr2.of_below {a b:Nat} {w w':World} (h:Below w.heap.size w w'):Fr2 a b w w':=⟨h.os,h.tape,h.output,h.size,fun k hk _ _=>h.block k hk⟩
theorem Fr2.trans {a b:Nat} {w w1 w2:World} (h:Fr2 a b w w1) (k:Fr2 a b w1 w2):Fr2 a b w w2:=
 ⟨k.os.trans h.os,k.tape.trans h.tape,k.output.trans h.output,Nat.le_trans h.size k.size,fun q hq h1 h2=>(k.same q (Nat.lt_of_lt_of_le hq h.size) h1 h2).trans (h.same q hq h1 h2)⟩
theorem Fr2.grown {a b:Nat} {w w':World} (h:w.grownBy w' (some b)):Fr2 a b w w':=
 ⟨h.os,h.tape,h.output,h.size,fun k hk _ h2=>h.block k hk (fun e=>h2 (by injection e))⟩
theorem Fr2.setA {b:Nat} (w:World) (a:Addr) (u:Value):Fr2 a.block b w (w.setCell a u):=
 ⟨rfl,rfl,rfl,by simp [World.setCell],fun k _ h1 _=>Below.heap_setCell w a u k h1⟩
theorem Fr2.below {a b B:Nat} {w w':World} (h:Fr2 a b w w') (ha:B≤a) (hb:B≤b) (hw:B≤w.heap.size):Below B w w':=
 ⟨h.os,h.tape,h.output,h.size,fun k hk=>h.same k (by omega) (by omega) (by omega)⟩
section
variable {w w':World} {B mg mb:Nat} {hp v:Value} {ws:List Nat} {pl:List (Nat × Nat)} {t0 t1 t2 t3 t4:Nat}
theorem mov_start (w:World) (hp:Value):
 MovAt (((w.alloc (.map #[] 0)).alloc (.cells #[.int .u32 0] 32)).alloc (.cells #[hp,.map (some w.heap.size),.slice (some ⟨w.heap.size+1,0,none⟩) 1 1,.int .i64 0,.int .i64 0,.int .i64 0,.int .i64 0,.int .i64 0] 172)) w.heap.size (w.heap.size+2) w.heap.size hp (.slice (some ⟨w.heap.size+1,0,none⟩) 1 1) [0] [] 0 0 0 0 0:=by
 have b0:=Blk.new ((w.alloc (.map #[] 0)).alloc (.cells #[.int .u32 0] 32)) 172 #[hp,.map (some w.heap.size),.slice (some ⟨w.heap.size+1,0,none⟩) 1 1,.int .i64 0,.int .i64 0,.int .i64 0,.int .i64 0,.int .i64 0]
 rw [World.size_alloc,World.size_alloc] at b0
 have r0:=Blk.new (w.alloc (.map #[] 0)) 32 #[.int .u32 0]
 rw [World.size_alloc] at r0
 have r1:=r0.alloc (.cells #[hp,.map (some w.heap.size),.slice (some ⟨w.heap.size+1,0,none⟩) 1 1,.int .i64 0,.int .i64 0,.int .i64 0,.int .i64 0,.int .i64 0] 172)
 have m0:=MapE.made w 54 54 .u32
 have m1:=(m0.below ((Below.refl _ _).alloc (Nat.le_refl _) (.cells #[.int .u32 0] 32))).below ((Below.refl _ _).alloc (Nat.le_refl _) (.cells #[hp,.map (some w.heap.size),.slice (some ⟨w.heap.size+1,0,none⟩) 1 1,.int .i64 0,.int .i64 0,.int .i64 0,.int .i64 0,.int .i64 0] 172))
 refine⟨b0,?_,m1.ext (fun x=>by rw [goesM_no (by simp)]; rfl) (fun x=>by simp),by omega,Nat.le_refl _⟩
 unfold Blk at r1
 exact⟨rfl,.inr ⟨w.heap.size+1,1,#[.int .u32 0],rfl,by omega,r1,by simp,by simp [maxLen],by simp,by simp [u32s]⟩⟩
theorem mov_put (M:MovAt w B mg mb hp v ws pl t0 t1 t2 t3 t4) {q:Nat × Nat} (hq:q.1∉pl.map (·.1)) (h1:q.1<4294967296) (h2:q.2<4294967296) (hn:pl.length≤1048576):
 ∃ w',(Instr.mapUpdate 170 (.map (some mb)) (.int .u32 (q.1:Int)) (.int .u32 (q.2:Int))).run Tryz.prog w = .ok () w'∧MovAt w' B mg mb hp v ws (pl++[q]) t0 t1 t2 t3 t4∧w.grownBy w' (some mb):=by
 obtain⟨w',hr,hm,hg⟩:=M.map.put tyOO (v:=(q.2:Int)) h1 (by simp only [Lit.wf,show IntKind.u32.min=0 by decide,show IntKind.u32.max=4294967295 by decide,Bool.and_eq_true,decide_eq_true_eq]; omega) (by omega)
 have hne:mb≠mg:=M.map.ne_blk M.box
 refine⟨w',hr,⟨M.box.same (hg.block mg M.box.lt (fun e=>hne (by first | exact Option.some.inj e | exact (Option.some.inj e).symm))),own_keep M.own (fun k hk=>hg.block k (M.own.lt k hk).2 (fun e=>own_ne_map M.own M.map (hk.trans (by first | exact e | exact e.symm)))),?_,M.hg,M.hm⟩,hg⟩
 rw [List.length_append]
 refine hm.ext (fun x=>?_) (fun x=>?_)
 ·by_cases hx:x=q.1
  ·subst hx
   rw [if_pos rfl]
   unfold goesM
   rw [List.find?_append,List.find?_eq_none.2 (fun y hy e=>hq (List.mem_map.2 ⟨y,hy,by simpa using e⟩))]
   simp
  ·rw [if_neg hx]
   unfold goesM
   rw [List.find?_append]
   cases hf:pl.find? (fun p=>p.1 == x) with
   | some y=>simp
   | none=>simp [List.find?_cons,show (q.1 == x)=false from by simp; exact fun e=>hx e.symm]
 ·by_cases hx:x=q.1
  ·simp [hx]
  ·rw [if_neg hx]
   simp [hx]
theorem mov_cells {u0 u1 u2 u3 u4:Nat} (M:MovAt w B mg mb hp v ws pl t0 t1 t2 t3 t4) (hb:Blk w' mg 172 #[hp,.map (some mb),v,.int .i64 (u0:Int),.int .i64 (u1:Int),.int .i64 (u2:Int),.int .i64 (u3:Int),.int .i64 (u4:Int)]) (hs:∀ k,k≠mg→w'.heap[k]? = w.heap[k]?):
 MovAt w' B mg mb hp v ws pl u0 u1 u2 u3 u4:=
 ⟨hb,own_keep M.own (fun q hq=>hs q (fun e=>own_ne_blk M.own M.box (by decide) (e ▸ hq))),M.map.same (hs mb (M.map.ne_blk M.box)),M.hg,M.hm⟩
theorem mov_same (M:MovAt w B mg mb hp v ws pl t0 t1 t2 t3 t4) (h1:w'.heap[mg]? = w.heap[mg]?) (h2:w'.heap[mb]? = w.heap[mb]?) (h3:∀ k,v.ownBlock=some k→w'.heap[k]? = w.heap[k]?):MovAt w' B mg mb hp v ws pl t0 t1 t2 t3 t4:=
 ⟨M.box.same h1,own_keep M.own h3,M.map.same h2,M.hg,M.hm⟩
end
theorem map_elem (f:Nat→Nat) (rs:List Nat) (k:Nat) (hk:k<rs.length):((rs.take k).map f++rs.drop k).getD k 0=rs.getD k 0:=by
 have hl:((rs.take k).map f).length=k:=by simp; omega
 rw [List.getD_eq_getElem?_getD,List.getD_eq_getElem?_getD,List.getElem?_append_right (by omega),hl,Nat.sub_self,List.getElem?_drop,Nat.add_zero]
theorem map_step (f:Nat→Nat) (rs:List Nat) (k:Nat) (hk:k<rs.length):(u32s ((rs.take k).map f++rs.drop k)).set k (.int .u32 (f (rs.getD k 0):Int))=u32s ((rs.take (k+1)).map f++rs.drop (k+1)):=by
 have hl:(u32s ((rs.take k).map f)).length=k:=by rw [u32s_len]; simp; omega
 have hg:rs.getD k 0=rs[k]:=by rw [List.getD_eq_getElem?_getD,List.getElem?_eq_getElem hk]; rfl
 have hd:rs.drop k=rs[k] :: rs.drop (k+1):=List.drop_eq_getElem_cons hk
 rw [u32s_app,hd,List.set_append_right _ _ (by omega),hl,Nat.sub_self,hg,List.take_add_one,List.getElem?_eq_getElem hk,List.map_append,u32s_app,u32s_app,List.append_assoc]
 rfl
def clrN (pl:List (Nat × Nat)) (z:List (Nat × Ob)):Nat:=(z.map (fun p=>clearedB pl p.2)).sum
theorem clr_le (pl:List (Nat × Nat)):∀ z:List (Nat × Ob),clrN pl z≤(wsOf (z.map (·.2))).length
 | []=>Nat.le_refl _
 | a :: z=>by
   have ih:=clr_le pl z
   unfold clrN at *
   rw [List.map_cons,List.sum_cons,List.map_cons,wsOf_cons,List.length_append,Ob.ws_len]
   have h1:clearedB pl a.2≤a.2.fs.length:=by
    unfold clearedB
    split
    ·exact List.length_filter_le _ _
    ·exact Nat.zero_le _
   omega
theorem clr_snoc (pl:List (Nat × Nat)) (z:List (Nat × Ob)) (p:Nat × Ob):clrN pl (z++[p])=clrN pl z+clearedB pl p.2:=by
 unfold clrN; rw [List.map_append,List.sum_append]; simp
def colV (h:HM) (l:List Ob):Value:=
 .agg #[.int .i64 ((liveO h l).length:Nat),.int .i64 ((l.length-(liveO h l).length:Nat):Nat),.int .i64 ((h.words.length-(1+(wsOf (colL h l)).length):Nat):Nat),.int .i64 (movedN h l:Nat),.int .i64 (clearedN h l:Nat)]
end
end Go.Proofs.YtlkahgagmfhdaaaGreatDoor
