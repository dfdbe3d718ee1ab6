import Derived.Test.YtlkahgagmfhdaaaGreatDoorQSoAll
import Derived.Test.YtlkahgagmfhdaaaGreatDoorHdL
import Derived.Test.YtlkahgagmfhdaaaGreatDoorTail
import Derived.Test.YtlkahgagmfhdaaaGreatDoorQUntil
import Derived.Shelf.SlSortCmp.NoneTotal
import Derived.Lib.QuietBelow
set_option linter.unusedVariables false
set_option linter.unusedSimpArgs false
set_option linter.unusedSectionVars false
namespace Go.Proofs.YtlkahgagmfhdaaaGreatDoor
section
open Go.RowKit Go.Sort
attribute [local go_sem] Oper.semAt_some
abbrev H3:=Nat × Nat × Nat
def hdC (x:H3):List Value:=[.int .u64 (x.1:Int),.int .u32 (x.2.1:Int),.int .i64 (x.2.2:Int)]
def hdsC (l:List H3):List Value:=l.flatMap hdC
theorem hdsC_cons (x:H3) (l:List H3):hdsC (x :: l) = .int .u64 (x.1:Int) :: .int .u32 (x.2.1:Int) :: .int .i64 (x.2.2:Int) :: hdsC l:=rfl
theorem hdsC_snoc (l:List H3) (x:H3):hdsC (l++[x])=hdsC l++[.int .u64 (x.1:Int),.int .u32 (x.2.1:Int),.int .i64 (x.2.2:Int)]:=by unfold hdsC; rw [List.flatMap_append]; rfl
theorem hdsC_len:∀ l:List H3,(hdsC l).length=l.length*3
 | []=>rfl
 | x :: l=>by rw [hdsC_cons,List.length_cons,List.length_cons,List.length_cons,List.length_cons,hdsC_len l]; omega
theorem hdsC_at:∀ (l:List H3) (t:Nat),t<l.length*3→(hdsC l)[t]? = (hdC (l.getD (t / 3) default))[t%3]?
 | [],t,h=>by simp at h
 | x :: l,0,_=>rfl
 | x :: l,1,_=>rfl
 | x :: l,2,_=>rfl
 | x :: l,t+3,h=>by
   rw [List.length_cons] at h
   have ih:=hdsC_at l t (by omega)
   rw [hdsC_cons,show t+3=t+1+1+1 from rfl,List.getElem?_cons_succ,List.getElem?_cons_succ,List.getElem?_cons_succ,ih,show (t+1+1+1) / 3=t / 3+1 by omega,show (t+1+1+1)%3=t%3 by omega]
   rfl
theorem hdsC_get {l:List H3} {i:Nat} {x:H3} (h:l[i]? = some x):(hdsC l)[i*3]? = some (.int .u64 (x.1:Int))∧(hdsC l)[i*3+1]? = some (.int .u32 (x.2.1:Int))∧(hdsC l)[i*3+2]? = some (.int .i64 (x.2.2:Int)):=by
 have hi:i<l.length:=(List.getElem?_eq_some_iff.1 h).1
 have hg:l.getD i default=x:=by rw [List.getD_eq_getElem?_getD,h]; rfl
 refine⟨?_,?_,?_⟩
 ·rw [hdsC_at l _ (by omega),show i*3 / 3=i by omega,show i*3%3=0 by omega,hg]; rfl
 ·rw [hdsC_at l _ (by omega),show (i*3+1) / 3=i by omega,show (i*3+1)%3=1 by omega,hg]; rfl
 ·rw [hdsC_at l _ (by omega),show (i*3+2) / 3=i by omega,show (i*3+2)%3=2 by omega,hg]; rfl
theorem flat_hds (l:List H3):flatK hdC 3 l.toArray=(hdsC l).toArray:=by
 refine ext_get! (by rw [size_flatK]; simp [hdsC_len]) fun t ht=>?_
 have ht':t<l.toArray.size*3:=by simpa using ht
 have ht2:t<l.length*3:=by simpa using ht'
 rw [get_flatK _ _ _ t ht']
 have h1:=hdsC_at l t ht2
 have h2:t / 3<l.length:=by omega
 have e1:l.toArray[t / 3]! = l.getD (t / 3) default:=by
  simp [List.getD,h2]
 rw [e1]
 have e2:(hdsC l).toArray[t]! = ((hdsC l)[t]?).getD default:=by
  rw [Array.getElem!_eq_getD,Array.getD_eq_getD_getElem?]
  simp
 rw [e2,h1]
 have h3:t%3<3:=Nat.mod_lt _ (by omega)
 rw [List.getElem!_eq_getElem?_getD]
def cmpN (x y:H3):Int:=if x.1<y.1 then -1 else if y.1<x.1 then 1 else 0
theorem ltN (x y:H3):ltOf cmpN x y=decide (x.1<y.1):=by
 unfold ltOf cmpN
 by_cases h1:x.1<y.1
 ·simp [h1]
 ·by_cases h2:y.1<x.1 <;> simp [h1,h2]
theorem swoN:SWO (ltOf cmpN) where
 irrefl x:=by rw [ltN]; simp
 trans x y z h1 h2:=by rw [ltN] at *; simp at *; omega
 ntrans x y z h1 h2:=by rw [ltN] at *; simp at *; omega
theorem cmp64_any (x y:Nat) (w:World):Calls Tryz.prog 103 #[.int .u64 (x:Int),.int .u64 (y:Int)] w (Said (.int .i64 (if x<y then -1 else if y<x then 1 else 0)) w):=by
 have HN:=Lib.hid (fun (z:Int) (w:World)=>s6_cmp_isNaN z w)
 by_cases h1:x<y
 ·rw [if_pos h1]
  have h2:(x:Int)<(y:Int):=by omega
  go_enter Tryz.func103,Tryz.ntmps103
  go_wp2_with fail
  refine (HN.out _ _).mono ?_
  rintro e w1 ⟨rfl,rfl⟩
  go_wp2_with fail
  refine (HN.out _ _).mono ?_
  rintro e w1 ⟨rfl,rfl⟩
  go_wp2_with fail
  go_ret
  exact⟨rfl,rfl⟩
 ·rw [if_neg h1]
  by_cases h2:y<x
  ·rw [if_pos h2]
   have h3:¬ (x:Int)<(y:Int):=by omega
   have h4:(y:Int)<(x:Int):=by omega
   go_enter Tryz.func103,Tryz.ntmps103
   go_wp2_with fail
   refine (HN.out _ _).mono ?_
   rintro e w1 ⟨rfl,rfl⟩
   go_wp2_with fail
   refine (HN.out _ _).mono ?_
   rintro e w1 ⟨rfl,rfl⟩
   go_wp2_with fail
   go_ret
   exact⟨rfl,rfl⟩
  ·rw [if_neg h2]
   have h3:¬ (x:Int)<(y:Int):=by omega
   have h4:¬ (y:Int)<(x:Int):=by omega
   go_enter Tryz.func103,Tryz.ntmps103
   go_wp2_with fail
   refine (HN.out _ _).mono ?_
   rintro e w1 ⟨rfl,rfl⟩
   go_wp2_with fail
   refine (HN.out _ _).mono ?_
   rintro e w1 ⟨rfl,rfl⟩
   go_wp2_with fail
   go_ret
   exact⟨rfl,rfl⟩
set_option maxHeartbeats 1000000 in
theorem live1_any (x y:H3) (W:World):Calls Tryz.prog 102 #[.agg #[.int .u64 (x.1:Int),.int .u32 (x.2.1:Int),.int .i64 (x.2.2:Int)],.agg #[.int .u64 (y.1:Int),.int .u32 (y.2.1:Int),.int .i64 (y.2.2:Int)]] W fun e w'=>e = .returned (.int .i64 (cmpN x y))∧∃ q os',w'=grow (W.drewN q) os':=by
 have hcon:=Lib.hid (fun W'=>cmp64_any x.1 y.1 W')
 have HC:=Lib.hid (show cmpN x y=(if x.1<y.1 then -1 else if y.1<x.1 then 1 else 0) from rfl)
 rw [HC.out]
 clear HC
 generalize (if x.1<y.1 then (-1:Int) else if y.1<x.1 then 1 else 0)=r at hcon ⊢
 go_enter Tryz.func102,Tryz.ntmps102
 go_wp2_with fail
 refine (hcon.out _).mono ?_
 rintro e w1 ⟨rfl,rfl⟩
 go_wp2_with fail
 go_ret
 exact⟨rfl,0,_,by rw [alloc_eq_grow,alloc_eq_grow,grow_grow]; rfl⟩
theorem cmpLaysN (blk off size:Nat) (w:World):CmpLays Tryz.prog 102 #[] hdC 3 cmpN blk off size w:=
 fun _ _ _ _ x y=>live1_any x y _
theorem heap_sortedH {w:World} {g n:Nat} {os:Array Obj} {cur:Array Value} {e:TypeId} {fr:Nat × Nat} (d:Array Value) (hb:w.heap[g]? = some (.cells cur e fr)):
 (grow (putRow id (Sort.ahead w n) g 0 d) os).heap[g]? = some (.cells (putCells id 0 d cur) e fr):=by
 have hg:g<w.heap.size:=(Array.getElem?_eq_some_iff.1 hb).1
 rw [heap_grow_old _ _ (by simpa using hg)]
 simp [putRow,mapBlock,Sort.ahead,Array.getElem?_modify,hb,onCells]
theorem frb_sortedH {w:World} {g n:Nat} {os:Array Obj} (d:Array Value):Frb g w (grow (putRow id (Sort.ahead w n) g 0 d) os):=by
 refine⟨rfl,rfl,rfl,by simp,fun k hk hne=>?_⟩
 rw [heap_grow_old _ _ (by simpa using hk)]
 have:g≠k:=fun e=>hne e.symm
 simp [putRow,mapBlock,Sort.ahead,Array.getElem?_modify,this]
theorem take_putCellsH (cur:Array Value) (ts:List Value) (h:ts.length≤cur.size):(putCells id 0 ts.toArray cur).toList.take ts.length=ts:=by
 apply List.ext_getElem?
 intro j
 by_cases hj:j<ts.length
 ·rw [List.getElem?_take_of_lt hj,Array.getElem?_toList]
  simp [putCells,hj,show j<cur.size by omega]
 ·rw [List.getElem?_take_eq_none (by omega),List.getElem?_eq_none (by omega)]
theorem sortH_any {w:World} {B:Nat} {v:Value} {xs:List H3} (h:w.ownsRow B 99 3 v xs.length (hdsC xs)) (hB:B≤w.heap.size) (hn:xs.length<4611686018427387904):
 Calls Tryz.prog 101 #[v,.func (.func 102) #[] #[]] w fun e w'=>e = .returned (.tuple #[])∧∃ ys:List H3,ys.Perm xs∧ys.Pairwise (fun x y=>x.1≤y.1)∧w'.ownsRow B 99 3 v xs.length (hdsC ys)∧Below B w w':=by
 rcases h.2 with ⟨hv,h0⟩ | ⟨g,cap,cur,hv,hg,hh,h3,h4,h5,h6⟩
 ·have h0:xs.length=0:=by first | exact h0 | (have:=h.1; simp_all) | omega
  have hx:xs=[]:=List.eq_nil_of_length_eq_zero h0
  subst hx
  subst hv
  refine (AnyF.slices_SortFunc_none sH_lay none 0 _ w).mono ?_
  rintro e w' ⟨rfl,rfl⟩
  exact⟨rfl,[],List.Perm.refl _,List.Pairwise.nil,h,Below.refl _ _⟩
 ·subst hv
  have eg:∀ args w,(callFunc 102 args).run Tryz.prog w = .ok (.enter 102 args) w:=enters_of Tryz.func102 (by kernel_rfl) rfl
  have hlt:g<w.heap.size:=by
   rcases Nat.lt_or_ge g w.heap.size with h1 | h1
   ·exact h1
   ·rw [Array.getElem?_eq_none h1] at hh; cases hh
  have hH:HoldsK hdC 3 w g 0 xs.toArray:=by
   unfold HoldsK
   rw [flat_hds]
   intro j hj
   have hj':j<(hdsC xs).length:=by simpa using hj
   have hb:Blk w g 99 cur:=hh
   have h7:cur.toList[j]? = (hdsC xs)[j]? :=by
    have:(cur.toList.take (xs.length*3))[j]? = (hdsC xs)[j]? :=by rw [h6]
    rwa [List.getElem?_take_of_lt (by rw [hdsC_len] at hj'; exact hj')] at this
   refine⟨?_,hb.frozen _⟩
   rw [Nat.zero_add,hb.cell,← Array.getElem?_toList,h7,List.getElem?_eq_getElem hj']
   simp [hj']
  have hcon:=AnyQ.slices_SortFunc sH_lay 3 Tryz.isAgg99 Tryz.sizeOf99 hdC (fun _=>rfl) (fun x v hv=>by simp [hdC] at hv; rcases hv with rfl | rfl | rfl <;> rfl) cmpN swoN 102 #[] g 0 cap xs.toArray w eg (cmpLaysN g 0 xs.toArray.size w) hH hlt (by simpa using hn)
  have hsz:xs.toArray.size=xs.length:=by simp
  rw [hsz] at hcon
  refine hcon.mono ?_
  rintro e w' ⟨rfl,d',n,os,hp,hs,rfl⟩
  have hds:d'.size=xs.length:=by rw [hp.1,hsz]
  have hp2:d'.toList.Perm xs:=by
   have:=hp.2.2
   rw [show (0:Nat)=0 from rfl] at this
   have e1:(d'.extract 0 xs.length)=d':=by rw [← hds,Array.extract_size]
   have e2:(xs.toArray.extract 0 xs.length)=xs.toArray:=by rw [← hsz,Array.extract_size]
   rw [e1,e2] at this
   exact this
  have hs2:d'.toList.Pairwise (fun x y=>x.1≤y.1):=by
   rw [List.pairwise_iff_getElem]
   intro i j hi hj hij
   have h1:=hs i j (Nat.zero_le _) hij (by rw [← hds]; simpa using hj)
   rw [ltN] at h1
   have h2:¬ (d'[j]!).1<(d'[i]!).1:=by simpa using h1
   have hi':i<d'.size:=by simpa using hi
   have hj':j<d'.size:=by simpa using hj
   rw [getElem!_pos d' i hi',getElem!_pos d' j hj'] at h2
   simp only [Array.getElem_toList]
   omega
  refine⟨rfl,d'.toList,hp2,hs2,?_,?_⟩
  ·have hfl:flatK hdC 3 d'=(hdsC d'.toList).toArray:=by
    have:=flat_hds d'.toList
    simpa using this
   have hln:(hdsC d'.toList).length=xs.length*3:=by rw [hdsC_len]; simp [hds]
   refine⟨by rw [hln],.inr ⟨g,cap,putCells id 0 (hdsC d'.toList).toArray cur,rfl,hg,?_,h3,h4,by simp [putCells,h5],?_⟩⟩
   ·unfold sortWorldK putRowK
    rw [hfl]
    exact heap_sortedH _ hh
   ·have:=take_putCellsH cur (hdsC d'.toList) (by
     rw [hln]
     have:(hdsC xs).length≤cur.size:=by
      have e:=congrArg List.length h6
      rw [List.length_take,hdsC_len] at e
      rw [hdsC_len]
      simp at e
      omega
     rwa [hdsC_len] at this)
    rwa [hln] at this
  ·unfold sortWorldK putRowK
   exact (frb_sortedH _).below hg hB
end
section
open Go.RowKit Go.Sort
attribute [local go_sem] Oper.semAt_some
def hd3 (h:HM) (t:TM) (k:Nat):H3:=((t.at k).1,h.objK k,(t.at k).2)
def livL (h:HM) (t:TM):List H3:=if brkB h t then [] else t.liveK.map (hd3 h t)
theorem info_hd:(Tryz.prog.info? 99).map (fun i=>(i.zero,i.size,i.bytes))=some (some (Value.agg #[.int .u64 0,.int .u32 0,.int .i64 0]),3,24):=by kernel_rfl
theorem hreads_three (w:World) (a b c:Value) (t:TypeId):Reads (w.alloc (.cells #[a,b,c] t)) (w.heap.size+1) 3 (some ⟨w.heap.size,0,none⟩) 1 [a,b,c]:=by
 refine⟨rfl,fun _=>⟨_,rfl,by simp,fun j v hv=>?_⟩⟩
 rw [WideShapes.add_plain,Nat.zero_add]
 refine ((Blk.new w t #[a,b,c]).cell j).trans ?_
 rw [← hv]
 simp
def LiveP (W:World) (p:HP) (g gt:Nat) (h:HM) (t:TM) (w:World) (e:Ending) (w':World):Prop:=
 ∃ v,e = .returned v∧w'.ownsRow w.heap.size 99 3 v (livL h t).length (hdsC (livL h t))∧Below w.heap.size w w'
theorem live_sorted {h:HM} {t:TM} (O:t.Ok) {ys:List H3} (hp:ys.Perm ((t.usedK 256).map (hd3 h t))) (hs:ys.Pairwise (fun x y=>x.1≤y.1)):ys=t.liveK.map (hd3 h t):=by
 refine List.Perm.eq_of_pairwise (le:=fun x y:H3=>x.1≤y.1) (fun a b ha hb h1 h2=>?_) hs ?_ (hp.trans ((liveK_perm t).map _).symm)
 ·obtain⟨j,hj,rfl⟩:=List.mem_map.1 (hp.mem_iff.1 ha)
  obtain⟨k,hk,rfl⟩:=List.mem_map.1 hb
  have e:j=k:=O.uniq j k (mem_usedK.1 hj).2 (mem_liveK.1 hk).2 (by
   have h1:(t.at j).1≤(t.at k).1:=h1
   have h2:(t.at k).1≤(t.at j).1:=h2
   omega)
  rw [e]
 ·rw [List.pairwise_map]
  exact (liveK_sorted t)
section
variable {W w:World} {p:HP} {g gt:Nat} {h:HM} {t:TM} (T:HT W w p g gt h t)
include T
set_option maxRecDepth 100000 in
set_option maxHeartbeats 4000000 in
theorem tlive_any:Calls Tryz.prog 37 #[.pointer (some ⟨gt,0,none⟩)] w (LiveP W p g gt h t w):=by
 have HBR:=Lib.hid (tbroken_any T)
 have HT0:=Lib.hid T
 clear T
 cases hbr:brkB h t with
 | true=>
   have HV:=Lib.hid (show livL h t=[] by unfold livL; rw [if_pos hbr])
   rw [hbr] at HBR
   go_enter Tryz.func37,Tryz.ntmps37
   go_wp2_with fail
   refine HBR.out.mono ?_
   rintro e w1 ⟨rfl,hb1⟩
   have HB1:=Lib.hid hb1
   clear hb1
   go_wp2_with fail
   go_ret
   exact⟨_,rfl,by rw [HV.out]; exact own_none,HB1.out⟩
 | false=>
   have HV:=Lib.hid (show livL h t=t.liveK.map (hd3 h t) by unfold livL; rw [if_neg (by rw [hbr]; decide)])
   rw [hbr] at HBR
   clear hbr
   go_enter Tryz.func37,Tryz.ntmps37
   go_wp2_with fail
   refine HBR.out.mono ?_
   rintro e w1 ⟨rfl,hb1⟩
   have T1:=HT0.out.after hb1
   have hld:=T1.loadAt
   have HIX:=Lib.hid (fun (k:Nat) (hk:k<256) (w:World)=>index_slot T1.ok.len hk w)
   have HT1:=Lib.hid T1
   have HB1:=Lib.hid hb1
   clear T1 hb1 HBR
   generalize Value.agg (slC t.slots).toArray=vs at hld HIX
   go_wp2_with fail
   refine oper_load (v:=vs) hld ?_
   go_wp2_with fail
   obtain⟨i0,hi0,hz0,hz1,hz2⟩:=info_parts info_hd
   go_loopw [3,12] (fun gv iv wr=>∃ k:Nat,k≤256∧iv = .int .i64 (k:Int)∧Hid (wr.ownsRow w1.heap.size 99 3 gv (t.usedK k).length (hdsC ((t.usedK k).map (hd3 h t))))∧Hid (Below w1.heap.size w1 wr)) (fun _ iv _=>256-(intOf iv).toNat)
   case atStart=>exact⟨0,by omega,rfl,Lib.hid own_none,Lib.hid (Below.refl _ _)⟩
   case round=>
    clear hld
    obtain⟨k,hk,rfl,HOr,HBr⟩:=hrel
    by_cases hlt:k<256
    ·have hi:=HIX.out k hlt wr
     have HUS:=Lib.hid (show t.slots.getD k (0,0)≠(0,0)→¬ (t.slots.getD k (0,0)).1=0 from fun hu e=>by have:=(HT0.out.ok.used k hu).1; have e:(t.at k).1=0:=e; omega)
     have HSU:=Lib.hid (show t.usedK (k+1)=if usedB (t.slots.getD k (0,0)) then t.usedK k++[k] else t.usedK k from t.usedK_succ k)
     have HH3:=Lib.hid (show hd3 h t k=((t.slots.getD k (0,0)).1,h.objK k,(t.slots.getD k (0,0)).2) from rfl)
     generalize t.slots.getD k (0,0)=s at hi HUS HSU HH3
     clear HIX
     rcases s with ⟨a,b⟩
     have hlt2:(k:Int)<256:=by omega
     have HLN:=Lib.hid (t.usedK_len k)
     by_cases hu:((a,b):Nat × Nat)=(0,0)
     ·obtain⟨rfl,rfl⟩ :a=0∧b=0:=by simpa using hu
      have HS2:=Lib.hid (show t.usedK (k+1)=t.usedK k by rw [HSU.out]; rfl)
      have hbx:=(Below.refl wr.heap.size wr).alloc (Nat.le_refl _) (.cells #[.int .u64 0,.int .i64 0] 93)
      have HBX:=Lib.hid hbx
      simp only [Int.natCast_zero] at hi
      clear hbx
      go_wp2_with fail
      go_roundw
      case rel=>exact⟨k+1,by omega,by go_num,by rw [HS2.out]; exact Lib.hid (own_below HOr.out HBX.out),Lib.hid (below_top HBr.out HBX.out)⟩
      case measure=>simp [intOf]; omega
     ·have ha0:¬ a=0:=HUS.out hu
      have ha1:((a:Int) == 0)=false:=by simpa using ha0
      have HS2:=Lib.hid (show t.usedK (k+1)=t.usedK k++[k] by rw [HSU.out,(usedB_iff (a,b)).2 hu]; rfl)
      have HS3:=Lib.hid (show (t.usedK (k+1)).length=(t.usedK k).length+1∧hdsC ((t.usedK (k+1)).map (hd3 h t))=hdsC ((t.usedK k).map (hd3 h t))++[.int .u64 (a:Int),.int .u32 (h.objK k:Nat),.int .i64 (b:Int)] by
       rw [HS2.out]; exact⟨by simp,by rw [List.map_append,List.map_cons,List.map_nil,hdsC_snoc,HH3.out]⟩)
      have hbx:=(Below.refl wr.heap.size wr).alloc (Nat.le_refl _) (.cells #[.int .u64 (a:Int),.int .i64 (b:Int)] 93)
      have HBX:=Lib.hid hbx
      have x0:(wr.alloc (.cells #[.int .u64 (a:Int),.int .i64 (b:Int)] 93)).cell? ⟨wr.heap.size,0,none⟩=some (.int .u64 (a:Int)):=(Blk.new wr 93 #[.int .u64 (a:Int),.int .i64 (b:Int)]).cell 0
      have x1:(wr.alloc (.cells #[.int .u64 (a:Int),.int .i64 (b:Int)] 93)).cell? ⟨wr.heap.size,1,none⟩=some (.int .i64 (b:Int)):=(Blk.new wr 93 #[.int .u64 (a:Int),.int .i64 (b:Int)]).cell 1
      have hln:(t.usedK k).length≤256:=by have:=HLN.out; omega
      have HT5:=Lib.hid (HT1.out.after (below_top HBr.out hbx))
      have HO5:=Lib.hid (own_below HOr.out hbx)
      have HB5:=Lib.hid (below_top HBr.out hbx)
      clear hbx HS2 HSU HH3
      go_upto_region 8 with fail
      generalize wr.alloc (.cells #[.int .u64 (a:Int),.int .i64 (b:Int)] 93)=w5 at *
      refine wp_region_U 10 (fun w'=>w'.cell? ⟨wr.heap.size,0,none⟩=some (.int .u64 (a:Int))∧w'.cell? ⟨wr.heap.size,1,none⟩=some (.int .i64 (b:Int))) (by kernel_rfl) ?_
      have hbd:Below w5.heap.size w5 w5.drew:=below_drew (Below.refl _ _)
      have HTq:=Lib.hid (HT5.out.after hbd)
      have HOq:=Lib.hid (own_below HO5.out hbd)
      have HBq:=Lib.hid (below_top HB5.out hbd)
      have hS:w5.drew.cell? ⟨wr.heap.size,0,none⟩=some (.int .u64 (a:Int))∧w5.drew.cell? ⟨wr.heap.size,1,none⟩=some (.int .i64 (b:Int)):=⟨x0,x1⟩
      clear hbd HT5 HO5 HB5 HBX x0 x1
      generalize w5.drew=wq at *
      have HOB:=Lib.hid (HTq.out.obj1 (w0:=wq) (Below.refl _ _) (B:=wr.heap.size) hS.1 hS.2 k (by omega))
      refine U_read 0 (v:=u3) rfl (by kernel_rfl) (fun _ _ _ h=>h) hS (by kernel_rfl) (fun w' hw'=>by obtain⟨h0,h1⟩:=hw'; go_simp) ?_
      try simp only [Act.put,List.setIfInBounds_toArray,List.set_cons_zero,List.set_cons_succ]
      refine U_readC 1 [2,8,9,10] (v:=(.pointer (some ⟨wr.heap.size,0,none⟩))) rfl (by kernel_rfl) (fun _ _ _ h=>h) hS (by kernel_rfl) (fun w' hw'=>by obtain⟨h0,h1⟩:=hw'; go_simp) ?_
      try simp only [Act.put,List.setIfInBounds_toArray,List.set_cons_zero,List.set_cons_succ]
      refine U_readC 2 [8,9,10] (v:=(.int .u64 (a:Int))) rfl (by kernel_rfl) (fun _ _ _ h=>h) hS (by kernel_rfl) (fun w' hw'=>by obtain⟨h0,h1⟩:=hw'; go_simp) ?_
      try simp only [Act.put,List.setIfInBounds_toArray,List.set_cons_zero,List.set_cons_succ]
      refine U_readC 3 [5,8,9,10] (v:=(.pointer (some ⟨gt,0,none⟩))) rfl (by kernel_rfl) (fun _ _ _ h=>h) hS (by kernel_rfl) (fun w' hw'=>by obtain⟨h0,h1⟩:=hw'; go_simp) ?_
      try simp only [Act.put,List.setIfInBounds_toArray,List.set_cons_zero,List.set_cons_succ]
      refine U_readC 4 [5,8,9,10] (v:=(.int .i64 (k:Int))) rfl (by kernel_rfl) (fun _ _ _ h=>h) hS (by kernel_rfl) (fun w' hw'=>by obtain⟨h0,h1⟩:=hw'; go_simp) ?_
      try simp only [Act.put,List.setIfInBounds_toArray,List.set_cons_zero,List.set_cons_succ]
      refine U_readC 6 [7,8,9,10] (v:=(.pointer (some ⟨wr.heap.size,1,none⟩))) rfl (by kernel_rfl) (fun _ _ _ h=>h) hS (by kernel_rfl) (fun w' hw'=>by obtain⟨h0,h1⟩:=hw'; go_simp) ?_
      try simp only [Act.put,List.setIfInBounds_toArray,List.set_cons_zero,List.set_cons_succ]
      refine U_readC 7 [8,9,10] (v:=(.int .i64 (b:Int))) rfl (by kernel_rfl) (fun _ _ _ h=>h) hS (by kernel_rfl) (fun w' hw'=>by obtain⟨h0,h1⟩:=hw'; go_simp) ?_
      try simp only [Act.put,List.setIfInBounds_toArray,List.set_cons_zero,List.set_cons_succ]
      refine U_one 5 (by kernel_rfl) rfl rfl (fun K hK=>?_)
      go_simp
      refine HOB.out.mono ?_
      rintro e w6 ⟨rfl,HT6,HB6,c1,y0,y1,HI6⟩
      try dsimp only
      refine hK _ _ (fun _=>⟨y0,y1⟩) ?_
      clear hK K
      try simp only [Act.put,List.setIfInBounds_toArray,List.set_cons_zero,List.set_cons_succ]
      refine U_one 8 (by kernel_rfl) rfl rfl (fun K hK=>?_)
      go_simp
      refine hK _ _ (fun _=>⟨y0,y1⟩) ?_
      clear hK K
      try simp only [Act.put,List.setIfInBounds_toArray,List.set_cons_zero,List.set_cons_succ]
      have hal:=(Below.refl w6.heap.size w6).alloc (Nat.le_refl _) (.cells #[.int .u64 (a:Int),.int .u32 (h.objK k:Nat),.int .i64 (b:Int)] 99)
      refine U_one 9 (by kernel_rfl) rfl rfl (fun K hK=>?_)
      go_simp
      refine hK _ _ (fun _=>⟨(hal.cell (p:=⟨wr.heap.size,0,none⟩) (World.block_lt_of_cell? _ _ y0)).trans y0,(hal.cell (p:=⟨wr.heap.size,1,none⟩) (World.block_lt_of_cell? _ _ y1)).trans y1⟩) ?_
      clear hK K
      try simp only [Act.put,List.setIfInBounds_toArray,List.set_cons_zero,List.set_cons_succ]
      have HO6:=Lib.hid (own_below HOq.out HB6)
      have HB7:=Lib.hid (below_top HBq.out HB6)
      have hZ:w1.heap.size≤w6.heap.size:=HB7.out.size
      refine U_one 10 (by kernel_rfl) rfl rfl (fun K hK=>?_)
      refine wp_append_any _ (.tmp 19) (.tmp 28) _ rfl w1.heap.size 99 i0 _ 3 24 Tryz.underlying87 hi0 hz0 hz1 hz2 rfl (by omega) u3 (t.usedK k).length _ rfl (own_keep HO6.out (fun q hq=>Below.heap_alloc w6 (.cells #[.int .u64 (a:Int),.int .u32 (h.objK k:Nat),.int .i64 (b:Int)] 99) q (HO6.out.lt q hq).2)) (w6.heap.size+1) (some ⟨w6.heap.size,0,none⟩) 1 1 [.int .u64 (a:Int),.int .u32 (h.objK k:Nat),.int .i64 (b:Int)] rfl (hreads_three w6 _ _ _ _) (fun u hu=>by simp at hu; rcases hu with rfl | rfl | rfl <;> rfl) (by simp only [maxLen]; omega) (by omega) (by simp; omega) ?_
      intro v3 w3 hown3 hgrow3 hat3
      have HB3:=Lib.hid (below_grown (Nat.le_refl _) (HB7.out.alloc HB7.out.size (.cells #[.int .u64 (a:Int),.int .u32 (h.objK k:Nat),.int .i64 (b:Int)] 99)) hgrow3 (fun q hq=>(HO6.out.lt q hq).1))
      have HO3:=Lib.hid hown3
      clear hown3 hgrow3 hat3
      refine hK _ _ (fun h=>absurd h (by decide)) ?_
      clear hK K
      try simp only [Act.put,List.setIfInBounds_toArray,List.set_cons_zero,List.set_cons_succ]
      refine U_one 11 (by kernel_rfl) rfl rfl (fun K hK=>?_)
      go_simp
      refine hK _ _ (fun h=>absurd h (by decide)) ?_
      clear hK K
      try simp only [Act.put,List.setIfInBounds_toArray,List.set_cons_zero,List.set_cons_succ]
      refine U_done (by kernel_rfl) ?_ _
      simp only [Calm,Exit.then]
      clear hS hal HOB y0 y1 c1
      go_wp2_with fail
      go_roundw
      case rel=>exact⟨k+1,by omega,by go_num,by rw [HS3.out.1,HS3.out.2]; exact HO3,HB3⟩
      case measure=>simp [intOf]; omega
    ·obtain rfl:k=256:=by omega
     have HLE:=Lib.hid (show ((t.usedK 256).map (hd3 h t)).length=(t.usedK 256).length from List.length_map _)
     have hown:=HOr.out
     rw [← HLE.out] at hown
     have HSO:=Lib.hid (sortH_any hown HBr.out.size (by rw [HLE.out]; have:=t.usedK_len 256; omega))
     clear hown
     go_wp2_with fail
     refine HSO.out.mono ?_
     rintro e w5 ⟨rfl,ys,hp,hs,hown5,hb5⟩
     have HYS:=Lib.hid (live_sorted HT0.out.ok hp hs)
     have HYL:=Lib.hid hp.length_eq
     have HO5:=Lib.hid hown5
     have HB5:=Lib.hid (HB1.out.trans ((HBr.out.trans hb5).mono HB1.out.size))
     clear hown5 hb5 hp hs
     go_wp2_with fail
     go_ret
     refine⟨u3,rfl,?_,HB5.out⟩
     rw [HV.out,← HYS.out,HYL.out]
     exact own_base HO5.out HB1.out.size
end
end
section
open Go.RowKit
section
variable {t:TM} {h:HM}
end
end
section
open Go.RowKit
section
variable {t:TM} {h:HM}
theorem used_lt (O:t.Ok) {k:Nat} (hu:usedB (t.at k)=true):k<t.cap:=by
 rcases Nat.lt_or_ge k t.cap with h1 | h1
 ·exact h1
 ·rw [O.off k h1] at hu
  exact absurd hu (by decide)
theorem used_off (O:t.Ok):∀ m,t.cap≤m→t.usedK m=t.usedK t.cap
 | 0,h1=>by have:=O.lo; omega
 | m+1,h1=>by
   rcases Nat.lt_or_ge m t.cap with h2 | h2
   ·rw [show m+1=t.cap by omega]
   ·rw [TM.usedK_succ,O.off m h2,if_neg (by decide)]
    exact used_off O m h2
theorem free_is (O:t.Ok) {k:Nat} (hk:k<t.cap) (h0:t.at k=(0,0)) (hl:∀ j,j<k→t.at j≠(0,0)):t.free=k:=by
 have hlen:=O.len
 have hhi:=O.hi
 have hkl:k<(t.slots.take t.cap).length:=by rw [List.length_take]; omega
 unfold TM.free
 rw [List.findIdx_eq hkl]
 have e:∀ j (hj:j<(t.slots.take t.cap).length),(t.slots.take t.cap)[j]=t.at j:=fun j hj=>by
  rw [List.getElem_take,TM.at_get (by rw [List.length_take] at hj; omega)]
 refine⟨by rw [e _ hkl,h0]; rfl,fun j hj=>?_⟩
 rw [e j (by omega)]
 exact decide_eq_false (hl j hj)
theorem ht_free_none (O:t.Ok) (hl:∀ j,j<t.cap→t.at j≠(0,0)):¬ t.free<t.cap:=fun hh=>hl _ hh (TM.free_lt O hh)
def dfn (t:TM) (id:Nat):Int:=if id=0∨¬ t.find id<256 then -1 else (t.find id:Int)
theorem dfn_at (O:t.Ok) {k id:Nat} (hu:usedB (t.at k)=true) (he:(t.at k).1=id):dfn t id=(k:Int):=by
 have hne:=(usedB_iff _).1 hu
 have h0:=(O.used k hne).1
 have hf:=TM.find_eq O hne
 have hk:=used_lt O hu
 have hhi:=O.hi
 subst he
 unfold dfn
 rw [hf,if_neg (by omega)]
theorem dfn_no (O:t.Ok) {id:Nat} (hn:∀ j,j<t.cap→usedB (t.at j)=true→(t.at j).1≠id):dfn t id = -1:=by
 unfold dfn
 by_cases h1:id=0∨¬ t.find id<256
 ·rw [if_pos h1]
 ·have h2:=TM.find_lt O (id:=id) (fun e=>h1 (.inl e)) (by omega)
  have hu:=(usedB_iff _).2 h2.2
  exact absurd h2.1 (hn _ (used_lt O hu) hu)
theorem fnd_dfn (hb:brkB h t=false) (id:Nat):fndE h t id=if dfn t id = -1 then 160 else 0:=by
 unfold fndE dfn
 rw [hb,if_neg (by decide)]
 by_cases h1:id=0∨¬ t.find id<256
 ·rw [if_pos h1,if_pos h1,if_pos rfl]
 ·rw [if_neg h1,if_neg h1,if_neg (by omega)]
theorem dfn_find {id:Nat} (hn:dfn t id≠ -1):dfn t id=(t.find id:Int)∧id≠0∧t.find id<256:=by
 unfold dfn at hn ⊢
 by_cases h1:id=0∨¬ t.find id<256
 ·rw [if_pos h1] at hn; exact absurd rfl hn
 ·rw [if_neg h1]
  exact⟨rfl,fun e=>h1 (.inl e),by omega⟩
def clL (t:TM) (i:Nat):List Nat:=(t.liveK.take i).filter t.goneB
theorem clL_succ {t:TM} {i x:Nat} (hx:t.liveK[i]? = some x):clL t (i+1)=if t.goneB x then clL t i++[x] else clL t i:=by
 unfold clL
 rw [List.take_add_one,hx,List.filter_append]
 by_cases hg:t.goneB x=true
 ·rw [if_pos hg]; simp [hg]
 ·rw [if_neg hg]; simp [hg]
theorem clL_all (t:TM):clL t t.liveK.length=t.liveK.filter t.goneB:=by unfold clL; rw [List.take_length]
theorem clL_lt (t:TM) (i:Nat):∀ k∈clL t i,k<256:=fun k hk=>(mem_liveK.1 (List.mem_of_mem_take (List.mem_filter.1 hk).1)).1
theorem clL_not {t:TM} {i x:Nat} (hx:t.liveK[i]? = some x):x∉clL t i:=by
 intro hh
 have h1:=(List.mem_filter.1 hh).1
 obtain⟨j,hj,e⟩:=List.mem_iff_getElem.1 h1
 rw [List.length_take] at hj
 rw [List.getElem_take] at e
 obtain⟨hi,e2⟩:=List.getElem?_eq_some_iff.1 hx
 exact (List.pairwise_iff_getElem.1 (liveK_nodup t)) j i (by omega) hi (by omega) (e.trans e2.symm)
theorem clL_find (O:t.Ok) {i x:Nat} (hx:t.liveK[i]? = some x):dfn (t.clears (clL t i)) (t.at x).1=(x:Int)∧(t.clears (clL t i)).at x=t.at x:=by
 have hm:=mem_liveK.1 (List.mem_of_getElem? hx)
 have e:(t.clears (clL t i)).at x=t.at x:=by rw [TM.clears_at _ _ O.len (clL_lt t i),if_neg (clL_not hx)]
 refine⟨?_,e⟩
 exact dfn_at (TM.Ok.clears _ O (clL_lt t i)) (by rw [e]; exact (usedB_iff _).2 hm.2) (by rw [e])
theorem clL_end (t:TM) (h:HM):t.clears (clL t t.liveK.length)=t.clears (t.goneK 256)∧h.clrs (clL t t.liveK.length)=h.clrs (t.goneK 256)∧t.ids (clL t t.liveK.length)=sortN (t.ids (t.goneK 256)):=by
 rw [clL_all,sortN_ids]
 exact⟨TM.clears_perm _ (goneL_perm t),clrs_perm _ (goneL_perm t),rfl⟩
theorem pass_brk (n:Nat):brkB h (t.pass n)=brkB h t:=rfl
theorem iss_free {o:Nat} {n:Int} (hb:brkB h t=false) (ho:h.isB o=true) (hl:leaseB n=true):issE h t o n=if ¬ t.free<t.cap then 161 else if t.next=0 then 163 else 0:=by
 unfold issE
 rw [hb,ho,hl,if_neg (by decide),if_neg (by decide),if_neg (by decide)]
end
end
section
open Go.RowKit
def insAt (ys:List H3) (x:H3) (i:Nat):List H3:=ys.take i++x :: ys.drop i
theorem insAt_len (ys:List H3) (x:H3) {i:Nat} (hi:i≤ys.length):(insAt ys x i).length=ys.length+1:=by
 unfold insAt
 rw [List.length_append,List.length_take,List.length_cons,List.length_drop]
 omega
theorem insAt_last (ys:List H3) (x:H3):insAt ys x ys.length=ys++[x]:=by
 unfold insAt
 rw [List.take_length,List.drop_length]
theorem insAt_perm (ys:List H3) (x:H3) (i:Nat):(insAt ys x i).Perm (ys++[x]):=by
 unfold insAt
 refine List.Perm.trans (List.perm_middle) ?_
 rw [List.take_append_drop]
 exact (List.perm_append_singleton x ys).symm
theorem insAt_x (ys:List H3) (x:H3) {i:Nat} (hi:i≤ys.length):(insAt ys x i)[i]? = some x:=by
 unfold insAt
 rw [List.getElem?_append_right (by rw [List.length_take]; omega),List.length_take]
 have:i-min i ys.length=0:=by omega
 rw [this]
 rfl
theorem insAt_y (ys:List H3) (x:H3) {i:Nat} (hi:i<ys.length):(insAt ys x (i+1))[i]? = ys[i]? :=by
 unfold insAt
 rw [List.getElem?_append_left (by rw [List.length_take]; omega),List.getElem?_take,if_pos (by omega)]
theorem insAt_swap (ys:List H3) (x y:H3) {i:Nat} (hi:i<ys.length) (hy:ys[i]? = some y):((insAt ys x (i+1)).set i x).set (i+1) y=insAt ys x i:=by
 obtain⟨_,e⟩:=List.getElem?_eq_some_iff.1 hy
 apply List.ext_getElem?
 intro j
 have h1:=insAt_len ys x (i:=i+1) (by omega)
 have h2:=insAt_len ys x (i:=i) (by omega)
 rw [List.getElem?_set,List.getElem?_set,List.length_set,h1]
 by_cases ha:i+1=j
 ·subst ha
  rw [if_pos rfl,if_pos (by omega)]
  unfold insAt
  rw [List.getElem?_append_right (by rw [List.length_take]; omega),List.length_take,show i+1-min i ys.length=1 by omega,List.getElem?_cons_succ,List.getElem?_drop]
  exact hy.symm
 ·rw [if_neg ha]
  by_cases hb:i=j
  ·subst hb
   rw [if_pos rfl,if_pos (by omega),insAt_x ys x (by omega)]
  ·rw [if_neg hb]
   unfold insAt
   rcases Nat.lt_or_ge j i with hc | hc
   ·rw [List.getElem?_append_left (by rw [List.length_take]; omega),List.getElem?_append_left (by rw [List.length_take]; omega),List.getElem?_take,List.getElem?_take,if_pos (by omega),if_pos hc]
   ·rw [List.getElem?_append_right (by rw [List.length_take]; omega),List.getElem?_append_right (by rw [List.length_take]; omega),List.length_take,List.length_take]
    obtain⟨q,rfl⟩ :∃ q,j=i+2+q:=⟨j-(i+2),by omega⟩
    rw [show i+2+q-min (i+1) ys.length=q+1 by omega,show i+2+q-min i ys.length=q+1+1 by omega,List.getElem?_cons_succ,List.getElem?_cons_succ,List.getElem?_drop,List.getElem?_drop]
    congr 1
    omega
def SortedH (ys:List H3):Prop:=ys.Pairwise (fun a b=>a.1≤b.1)
theorem insAt_sorted {ys:List H3} {x:H3} {i:Nat} (hs:SortedH ys) (hi:i≤ys.length) (h1:∀ y∈ys.drop i,x.1<y.1) (h2:∀ y∈ys.take i,y.1≤x.1):SortedH (insAt ys x i):=by
 unfold SortedH insAt at *
 rw [List.pairwise_append]
 refine⟨hs.sublist (List.take_sublist _ _),List.pairwise_cons.2 ⟨fun y hy=>Nat.le_of_lt (h1 y hy),hs.sublist (List.drop_sublist _ _)⟩,fun a ha b hb=>?_⟩
 rcases List.mem_cons.1 hb with rfl | hb
 ·exact h2 a ha
 ·have:=h1 b hb
  have:=h2 a ha
  omega
theorem take_le {ys:List H3} {x y:H3} {i:Nat} (hs:SortedH ys) (hy:ys[i]? = some y) (hle:y.1≤x.1):∀ z∈ys.take (i+1),z.1≤x.1:=by
 intro z hz
 rw [List.take_add_one,hy] at hz
 rcases List.mem_append.1 hz with hz | hz
 ·have hsp:ys=ys.take i++ys.drop i:=(List.take_append_drop i ys).symm
  have hd:y∈ys.drop i:=by
   rw [List.mem_iff_getElem?]
   exact⟨0,by rw [List.getElem?_drop]; exact hy⟩
  unfold SortedH at hs
  rw [hsp,List.pairwise_append] at hs
  have:=hs.2.2 z hz y hd
  omega
 ·have:z=y:=by simpa using hz
  rw [this]; exact hle
theorem drop_more {ys:List H3} {x y:H3} {i:Nat} (hy:ys[i]? = some y) (hlt:x.1<y.1) (h:∀ z∈ys.drop (i+1),x.1<z.1):∀ z∈ys.drop i,x.1<z.1:=by
 intro z hz
 obtain⟨hi,e⟩:=List.getElem?_eq_some_iff.1 hy
 rw [List.drop_eq_getElem_cons hi] at hz
 rcases List.mem_cons.1 hz with rfl | hz
 ·rw [e]; exact hlt
 ·exact h z hz
theorem hdsC_set:∀ (l:List H3) (k:Nat) (x:H3),hdsC (l.set k x)=(((hdsC l).set (k*3) (.int .u64 (x.1:Int))).set (k*3+1) (.int .u32 (x.2.1:Int))).set (k*3+2) (.int .i64 (x.2.2:Int))
 | [],k,x=>by simp [hdsC]
 | s :: l,0,x=>rfl
 | s :: l,k+1,x=>by
   rw [List.set_cons_succ,hdsC_cons,hdsC_cons,hdsC_set l k x,show (k+1)*3=k*3+1+1+1 by omega]
   rfl
end
end Go.Proofs.YtlkahgagmfhdaaaGreatDoor
