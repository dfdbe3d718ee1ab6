import Derived.Test.YtlkahgagmfhdaaaGreatDoorQMem
import Derived.Test.YtlkahgagmfhdaaaGreatDoorSoLen
import Derived.Sort.WalkA14
import Derived.Sort.Walk7a
import Derived.Lib.BitFns
set_option linter.unusedVariables false
set_option linter.unusedSimpArgs false
set_option linter.unusedSectionVars false
namespace Go.Proofs.YtlkahgagmfhdaaaGreatDoor
section
open Go.RowKit Go.Sort Go.Proofs
set_option maxRecDepth 1000000 in
set_option maxHeartbeats 1000000 in
theorem sO_cmp_isNaN (x:Int) (w:World):Calls Tryz.prog 290 #[.int .u32 x] w fun e w'=>e = .returned (.bool false)∧w'=w:=by
 go_enter Tryz.func290,Tryz.ntmps290
 go_wp2
 go_ret
 exact⟨by simp,rfl⟩
set_option maxRecDepth 1000000 in
set_option maxHeartbeats 1000000 in
theorem sO_cmp_Less (x y:Int) (w:World):Calls Tryz.prog 282 #[.int .u32 x,.int .u32 y] w fun e w'=>e = .returned (.bool (Sort.ltInt x y))∧w'=w:=by
 go_enter Tryz.func282,Tryz.ntmps282
 go_wp2_with (go_at_call 290; refine (sO_cmp_isNaN _ _).mono ?_; rintro e w' ⟨rfl,rfl⟩)
 go_ret
 exact⟨rfl,rfl⟩
set_option maxHeartbeats 8000000 in
set_option maxRecDepth 1000000 in
theorem sO_insertionSort (blk off cap a b:Nat) (d:Array Int) (w:World) (hH:Holds (Value.int .u32) w blk off d) (hab:a≤b) (hb:b≤d.size) (hsz:d.size<4611686018427387904):
 Calls Tryz.prog 276 #[.slice (some ⟨blk,off,none⟩) d.size cap,.int .i64 a,.int .i64 b] w fun e w'=>
  e = .returned (.tuple #[])∧∃ n,w'=putRow (Value.int .u32) (Sort.ahead w n) blk off (Sort.insertionSort ltInt d a b):=by
 go_enter Tryz.func276,Tryz.ntmps276
 go_wp2
 go_loopw [6] (fun vi wr=>∃ (i n:Nat) (dk:Array Int),vi = .int .i64 i∧a<i∧i≤b+1∧dk.size=d.size∧wr=putRow (Value.int .u32) (Sort.ahead w n) blk off dk∧
  insOuter ltInt a b i dk=insOuter ltInt a b (a+1) d) (fun vi _=>b+1-(intOf vi).toNat)
 case atStart=>exact⟨a+1,0,d,by go_num,by omega,by omega,rfl,(putRow_self _ _ _ _ _ hH).symm,rfl⟩
 case round=>
  obtain⟨i,n,dk,rfl,hai,hib,hsk,hwr,hO⟩:=hrel
  have HO:Hid (insOuter ltInt a b i dk=insOuter ltInt a b (a+1) d):=hO
  clear hO
  go_wp2
  ·
   go_loopw [7] (fun vj wr2=>∃ (j m:Nat) (dj:Array Int),vj = .int .i64 j∧a≤j∧j≤i∧dj.size=d.size∧wr2=putRow (Value.int .u32) (Sort.ahead w m) blk off dj∧
    insInner ltInt a j dj=insInner ltInt a i dk) (fun vj _=>(intOf vj).toNat)
   case atStart=>exact⟨i,n,dk,rfl,by omega,Nat.le_refl _,hsk,rfl,rfl⟩
   case round=>
    obtain⟨j,m,dj,rfl,haj,hji,hsj,hw2,hI⟩:=hrel
    have hlt:i<b:=by assumption
    obtain⟨G,hG⟩ :∃ G:Nat→Int,∀ t,G t=dj[t]! :=⟨fun t=>dj[t]!,fun _=>rfl⟩
    have hcw:∀ t,t<d.size→wr.cell? ⟨blk,off+t,none⟩=some (.int .u32 (G t)):=fun t ht=>by
     rw [hw2,hG]; exact cell?_putRow _ _ _ _ d dj (holds_ahead _ _ _ _ _ _ hH) hsj t (by omega)
    have hfw:∀ t,t<d.size→wr.frozen? ⟨blk,off+t,none⟩=false:=fun t ht=>by
     rw [hw2,frozen?_putRow]; exact ((holds_ahead _ _ m _ _ _ hH) t ht).2
    have HW:Hid (wr=putRow (Value.int .u32) (Sort.ahead w m) blk off dj):=hw2
    have HG:Hid (∀ t,G t=dj[t]!):=hG
    have HI:Hid (insInner ltInt a j dj=insInner ltInt a i dk):=hI
    clear hw2 hG hI hH
    have out:(j≤a∨ltInt dj[j]! dj[j-1]! = false)→∀ q,∃ i' n' dk',Value.int .i64 ((i:Int)+1) = .int .i64 (i':Nat)∧a<i'∧i'≤b+1∧dk'.size=d.size∧
     wr.drewN q=putRow (Value.int .u32) (Sort.ahead w n') blk off dk'∧insOuter ltInt a b i' dk'=insOuter ltInt a b (a+1) d:=fun hs q=>
     ⟨i+1,m+q,dj,by go_num,by omega,by omega,hsj,by rw [HW.out]; exact putRow_drewN _ _ _ _ _ _ _,
       by rw [← HO.out,insOuter_go _ _ _ _ _ hlt,← HI.out,insInner_stop _ _ _ _ hs]⟩
    have OUT:Hid _:=out
    clear out
    go_wp2
    by_cases hja:a<j
    ·go_quiet (first | (go_at_call 282; refine Calls.quiet_of_same (sO_cmp_Less _ _ _)))
     go_wp2
     ·
      have hl:ltInt (G j) (G (j-1))=true:=by assumption
      go_region
      all_goals go_wp2
      go_roundw
      case rel=>
       refine⟨j-1,m+(nq+1),swp dj j (j-1),by congr 1; omega,by omega,by omega,by rw [size_swp]; exact hsj,?_,?_⟩
       ·rw [HW.out,HG.out,HG.out]
        exact swap_worldA _ w m (nq+1) blk off dj j (j-1) (by omega) (by omega)
       ·rw [← HI.out,insInner_go ltInt a j dj hja (by rw [← HG.out,← HG.out]; exact hl)]
      case measure=>simp [intOf]; omega
     ·
      have hl:ltInt (G j) (G (j-1))=false:=by assumption
      go_roundw
      case rel=>exact OUT.out (Or.inr (by rw [← HG.out,← HG.out]; exact hl)) nq
      case measure=>simp [intOf]; omega
    ·go_quiet (first | (go_at_call 282; refine Calls.quiet_of_same (sO_cmp_Less _ _ _)))
     go_wp2
     go_roundw
     case rel=>exact OUT.out (Or.inl (by omega)) nq
     case measure=>simp [intOf]; omega
  ·
   have hge:¬ i<b:=by assumption
   go_end0
   exact⟨rfl,n,by unfold Sort.insertionSort; rw [← HO.out,insOuter_stop _ _ _ _ _ hge]⟩
set_option maxHeartbeats 8000000 in
set_option maxRecDepth 1000000 in
theorem sO_insertionSort_int_nil (p:Option Addr) (cap:Nat) (w:World):
 Calls Tryz.prog 276 #[.slice p 0 cap,.int .i64 0,.int .i64 0] w fun e w'=>e = .returned (.tuple #[])∧w'=w:=by
 go_enter Tryz.func276,Tryz.ntmps276
 go_wp2
 refine wp_loop_rounds 1 ?_
 rw [rounds_succ]
 go_wp2
 go_end0
 exact⟨rfl,rfl⟩
set_option maxHeartbeats 8000000 in
set_option maxRecDepth 1000000 in
theorem sO_xorshift_Next (rb ro X:Nat) (hX:X<18446744073709551616) (w:World) (hc:w.cell? ⟨rb,ro,none⟩=some (.int .u64 X)) (hf:w.frozen? ⟨rb,ro,none⟩=false):
 Calls Tryz.prog 257 #[.pointer (some ⟨rb,ro,none⟩)] w fun e w'=>e = .returned (.int .u64 (xorNextN X:Nat))∧w'=(w.setCell ⟨rb,ro,none⟩ (.int .u64 (xorNextN X:Nat))).drewN 3:=by
 obtain⟨A,hA⟩ :∃ A:Nat,A=X ^^^ (X*8192%18446744073709551616):=⟨_,rfl⟩
 obtain⟨B,hB⟩ :∃ B:Nat,B=A ^^^ (A / 128):=⟨_,rfl⟩
 obtain⟨C,hC⟩ :∃ C:Nat,C=B ^^^ (B*131072%18446744073709551616):=⟨_,rfl⟩
 have lA:A<18446744073709551616:=by rw [hA]; exact Nat.xor_lt_two_pow (n:=64) (by omega) (by omega)
 have lB:B<18446744073709551616:=by rw [hB]; exact Nat.xor_lt_two_pow (n:=64) (by omega) (by omega)
 have e1:bits .xor .u64 (X:Int) (IntKind.u64.wrap ((X:Int)*8192))=(A:Int):=by
  rw [IntKind.wrap_u64,show ((X:Int)*8192%18446744073709551616)=((X*8192%18446744073709551616:Nat):Int) by omega,bits_xor_u64_nat _ _ hX (by omega),hA]
 have e2:bits .xor .u64 (A:Int) ((A:Int) / 128)=(B:Int):=by
  rw [show ((A:Int) / 128)=((A / 128:Nat):Int) by omega,bits_xor_u64_nat _ _ lA (by omega),hB]
 have e3:bits .xor .u64 (B:Int) (IntKind.u64.wrap ((B:Int)*131072))=(C:Int):=by
  rw [IntKind.wrap_u64,show ((B:Int)*131072%18446744073709551616)=((B*131072%18446744073709551616:Nat):Int) by omega,bits_xor_u64_nat _ _ lB (by omega),hC]
 have hv:xorNextN X=C:=by unfold xorNextN; simp only []; rw [← hA,← hB,← hC]
 rw [hv]
 clear hA hB hC hv
 have hss:∀ v v',(w.setCell ⟨rb,ro,none⟩ v).setCell ⟨rb,ro,none⟩ v'=w.setCell ⟨rb,ro,none⟩ v':=setCell_setCell w rb ro
 go_enter Tryz.func257,Tryz.ntmps257
 go_wp2
 go_region
 all_goals go_wp2
 all_goals go_region
 all_goals go_wp2
 all_goals go_region
 all_goals go_wp2
 go_ret
 exact⟨rfl,rfl⟩
set_option maxHeartbeats 8000000 in
set_option maxRecDepth 1000000 in
theorem sO_nextPowerOfTwo (n:Nat) (hn:n<4611686018427387904) (w:World):
 Calls Tryz.prog 256 #[.int .i64 n] w fun e w'=>e = .returned (.int .u64 ((1 <<< bitsLen n:Nat):Int))∧w'=w:=by
 have hLen:∀ w,Calls Tryz.prog 167 #[.int .u64 (n:Int)] w fun e w'=>e = .returned (.int .i64 (bitsLen n:Nat))∧w'=w:=fun w=>by
  have h:=sL_bits_Len (n:Int) w (by omega) (by omega)
  rwa [Int.toNat_natCast,bitLen_eq _ (by omega)] at h
 have hk:bitsLen n≤62:=(bitsLen_le_iff n 62).2 (by omega)
 have hp:=wrap_two_pow (bitsLen n) hk
 go_enter Tryz.func256,Tryz.ntmps256
 go_wp2_with (first | (go_at_call 167; refine (hLen _).mono ?_; rintro e w' ⟨rfl,rfl⟩))
 go_ret
 exact⟨rfl,rfl⟩
end
section
open Go.RowKit Go.Sort Go.Proofs
def u64s (l:List Nat):List Value:=l.map fun x:Nat=> .int .u64 (x:Int)
theorem u64s_len (l:List Nat):(u64s l).length=l.length:=by simp [u64s]
theorem u64s_get {l:List Nat} {i:Nat} (h:i<l.length):(u64s l)[i]? = some (.int .u64 ((l.getD i 0:Nat):Int)):=by
 simp [u64s,List.getD,h]
set_option maxRecDepth 1000000 in
set_option maxHeartbeats 1000000 in
theorem s6_cmp_isNaN (x:Int) (w:World):Calls Tryz.prog 178 #[.int .u64 x] w fun e w'=>e = .returned (.bool false)∧w'=w:=by
 go_enter Tryz.func178,Tryz.ntmps178
 go_wp2
 go_ret
 exact⟨by simp,rfl⟩
set_option maxRecDepth 1000000 in
set_option maxHeartbeats 1000000 in
theorem s6_cmp_Less (x y:Int) (w:World):Calls Tryz.prog 213 #[.int .u64 x,.int .u64 y] w fun e w'=>e = .returned (.bool (Sort.ltInt x y))∧w'=w:=by
 go_enter Tryz.func213,Tryz.ntmps213
 go_wp2_with (go_at_call 178; refine (s6_cmp_isNaN _ _).mono ?_; rintro e w' ⟨rfl,rfl⟩)
 go_ret
 exact⟨rfl,rfl⟩
set_option maxHeartbeats 8000000 in
set_option maxRecDepth 1000000 in
theorem s6_insertionSort (blk off cap a b:Nat) (d:Array Int) (w:World) (hH:Holds (Value.int .u64) w blk off d) (hab:a≤b) (hb:b≤d.size) (hsz:d.size<4611686018427387904):
 Calls Tryz.prog 207 #[.slice (some ⟨blk,off,none⟩) d.size cap,.int .i64 a,.int .i64 b] w fun e w'=>
  e = .returned (.tuple #[])∧∃ n,w'=putRow (Value.int .u64) (Sort.ahead w n) blk off (Sort.insertionSort ltInt d a b):=by
 go_enter Tryz.func207,Tryz.ntmps207
 go_wp2
 go_loopw [6] (fun vi wr=>∃ (i n:Nat) (dk:Array Int),vi = .int .i64 i∧a<i∧i≤b+1∧dk.size=d.size∧wr=putRow (Value.int .u64) (Sort.ahead w n) blk off dk∧
  insOuter ltInt a b i dk=insOuter ltInt a b (a+1) d) (fun vi _=>b+1-(intOf vi).toNat)
 case atStart=>exact⟨a+1,0,d,by go_num,by omega,by omega,rfl,(putRow_self _ _ _ _ _ hH).symm,rfl⟩
 case round=>
  obtain⟨i,n,dk,rfl,hai,hib,hsk,hwr,hO⟩:=hrel
  have HO:Hid (insOuter ltInt a b i dk=insOuter ltInt a b (a+1) d):=hO
  clear hO
  go_wp2
  ·
   go_loopw [7] (fun vj wr2=>∃ (j m:Nat) (dj:Array Int),vj = .int .i64 j∧a≤j∧j≤i∧dj.size=d.size∧wr2=putRow (Value.int .u64) (Sort.ahead w m) blk off dj∧
    insInner ltInt a j dj=insInner ltInt a i dk) (fun vj _=>(intOf vj).toNat)
   case atStart=>exact⟨i,n,dk,rfl,by omega,Nat.le_refl _,hsk,rfl,rfl⟩
   case round=>
    obtain⟨j,m,dj,rfl,haj,hji,hsj,hw2,hI⟩:=hrel
    have hlt:i<b:=by assumption
    obtain⟨G,hG⟩ :∃ G:Nat→Int,∀ t,G t=dj[t]! :=⟨fun t=>dj[t]!,fun _=>rfl⟩
    have hcw:∀ t,t<d.size→wr.cell? ⟨blk,off+t,none⟩=some (.int .u64 (G t)):=fun t ht=>by
     rw [hw2,hG]; exact cell?_putRow _ _ _ _ d dj (holds_ahead _ _ _ _ _ _ hH) hsj t (by omega)
    have hfw:∀ t,t<d.size→wr.frozen? ⟨blk,off+t,none⟩=false:=fun t ht=>by
     rw [hw2,frozen?_putRow]; exact ((holds_ahead _ _ m _ _ _ hH) t ht).2
    have HW:Hid (wr=putRow (Value.int .u64) (Sort.ahead w m) blk off dj):=hw2
    have HG:Hid (∀ t,G t=dj[t]!):=hG
    have HI:Hid (insInner ltInt a j dj=insInner ltInt a i dk):=hI
    clear hw2 hG hI hH
    have out:(j≤a∨ltInt dj[j]! dj[j-1]! = false)→∀ q,∃ i' n' dk',Value.int .i64 ((i:Int)+1) = .int .i64 (i':Nat)∧a<i'∧i'≤b+1∧dk'.size=d.size∧
     wr.drewN q=putRow (Value.int .u64) (Sort.ahead w n') blk off dk'∧insOuter ltInt a b i' dk'=insOuter ltInt a b (a+1) d:=fun hs q=>
     ⟨i+1,m+q,dj,by go_num,by omega,by omega,hsj,by rw [HW.out]; exact putRow_drewN _ _ _ _ _ _ _,
       by rw [← HO.out,insOuter_go _ _ _ _ _ hlt,← HI.out,insInner_stop _ _ _ _ hs]⟩
    have OUT:Hid _:=out
    clear out
    go_wp2
    by_cases hja:a<j
    ·go_quiet (first | (go_at_call 213; refine Calls.quiet_of_same (s6_cmp_Less _ _ _)))
     go_wp2
     ·
      have hl:ltInt (G j) (G (j-1))=true:=by assumption
      go_region
      all_goals go_wp2
      go_roundw
      case rel=>
       refine⟨j-1,m+(nq+1),swp dj j (j-1),by congr 1; omega,by omega,by omega,by rw [size_swp]; exact hsj,?_,?_⟩
       ·rw [HW.out,HG.out,HG.out]
        exact swap_worldA _ w m (nq+1) blk off dj j (j-1) (by omega) (by omega)
       ·rw [← HI.out,insInner_go ltInt a j dj hja (by rw [← HG.out,← HG.out]; exact hl)]
      case measure=>simp [intOf]; omega
     ·
      have hl:ltInt (G j) (G (j-1))=false:=by assumption
      go_roundw
      case rel=>exact OUT.out (Or.inr (by rw [← HG.out,← HG.out]; exact hl)) nq
      case measure=>simp [intOf]; omega
    ·go_quiet (first | (go_at_call 213; refine Calls.quiet_of_same (s6_cmp_Less _ _ _)))
     go_wp2
     go_roundw
     case rel=>exact OUT.out (Or.inl (by omega)) nq
     case measure=>simp [intOf]; omega
  ·
   have hge:¬ i<b:=by assumption
   go_end0
   exact⟨rfl,n,by unfold Sort.insertionSort; rw [← HO.out,insOuter_stop _ _ _ _ _ hge]⟩
set_option maxHeartbeats 8000000 in
set_option maxRecDepth 1000000 in
theorem s6_insertionSort_int_nil (p:Option Addr) (cap:Nat) (w:World):
 Calls Tryz.prog 207 #[.slice p 0 cap,.int .i64 0,.int .i64 0] w fun e w'=>e = .returned (.tuple #[])∧w'=w:=by
 go_enter Tryz.func207,Tryz.ntmps207
 go_wp2
 refine wp_loop_rounds 1 ?_
 rw [rounds_succ]
 go_wp2
 go_end0
 exact⟨rfl,rfl⟩
set_option maxHeartbeats 8000000 in
set_option maxRecDepth 1000000 in
theorem s6_xorshift_Next (rb ro X:Nat) (hX:X<18446744073709551616) (w:World) (hc:w.cell? ⟨rb,ro,none⟩=some (.int .u64 X)) (hf:w.frozen? ⟨rb,ro,none⟩=false):
 Calls Tryz.prog 257 #[.pointer (some ⟨rb,ro,none⟩)] w fun e w'=>e = .returned (.int .u64 (xorNextN X:Nat))∧w'=(w.setCell ⟨rb,ro,none⟩ (.int .u64 (xorNextN X:Nat))).drewN 3:=by
 obtain⟨A,hA⟩ :∃ A:Nat,A=X ^^^ (X*8192%18446744073709551616):=⟨_,rfl⟩
 obtain⟨B,hB⟩ :∃ B:Nat,B=A ^^^ (A / 128):=⟨_,rfl⟩
 obtain⟨C,hC⟩ :∃ C:Nat,C=B ^^^ (B*131072%18446744073709551616):=⟨_,rfl⟩
 have lA:A<18446744073709551616:=by rw [hA]; exact Nat.xor_lt_two_pow (n:=64) (by omega) (by omega)
 have lB:B<18446744073709551616:=by rw [hB]; exact Nat.xor_lt_two_pow (n:=64) (by omega) (by omega)
 have e1:bits .xor .u64 (X:Int) (IntKind.u64.wrap ((X:Int)*8192))=(A:Int):=by
  rw [IntKind.wrap_u64,show ((X:Int)*8192%18446744073709551616)=((X*8192%18446744073709551616:Nat):Int) by omega,bits_xor_u64_nat _ _ hX (by omega),hA]
 have e2:bits .xor .u64 (A:Int) ((A:Int) / 128)=(B:Int):=by
  rw [show ((A:Int) / 128)=((A / 128:Nat):Int) by omega,bits_xor_u64_nat _ _ lA (by omega),hB]
 have e3:bits .xor .u64 (B:Int) (IntKind.u64.wrap ((B:Int)*131072))=(C:Int):=by
  rw [IntKind.wrap_u64,show ((B:Int)*131072%18446744073709551616)=((B*131072%18446744073709551616:Nat):Int) by omega,bits_xor_u64_nat _ _ lB (by omega),hC]
 have hv:xorNextN X=C:=by unfold xorNextN; simp only []; rw [← hA,← hB,← hC]
 rw [hv]
 clear hA hB hC hv
 have hss:∀ v v',(w.setCell ⟨rb,ro,none⟩ v).setCell ⟨rb,ro,none⟩ v'=w.setCell ⟨rb,ro,none⟩ v':=setCell_setCell w rb ro
 go_enter Tryz.func257,Tryz.ntmps257
 go_wp2
 go_region
 all_goals go_wp2
 all_goals go_region
 all_goals go_wp2
 all_goals go_region
 all_goals go_wp2
 go_ret
 exact⟨rfl,rfl⟩
set_option maxHeartbeats 8000000 in
set_option maxRecDepth 1000000 in
theorem s6_nextPowerOfTwo (n:Nat) (hn:n<4611686018427387904) (w:World):
 Calls Tryz.prog 256 #[.int .i64 n] w fun e w'=>e = .returned (.int .u64 ((1 <<< bitsLen n:Nat):Int))∧w'=w:=by
 have hLen:∀ w,Calls Tryz.prog 167 #[.int .u64 (n:Int)] w fun e w'=>e = .returned (.int .i64 (bitsLen n:Nat))∧w'=w:=fun w=>by
  have h:=sL_bits_Len (n:Int) w (by omega) (by omega)
  rwa [Int.toNat_natCast,bitLen_eq _ (by omega)] at h
 have hk:bitsLen n≤62:=(bitsLen_le_iff n 62).2 (by omega)
 have hp:=wrap_two_pow (bitsLen n) hk
 go_enter Tryz.func256,Tryz.ntmps256
 go_wp2_with (first | (go_at_call 167; refine (hLen _).mono ?_; rintro e w' ⟨rfl,rfl⟩))
 go_ret
 exact⟨rfl,rfl⟩
end
end Go.Proofs.YtlkahgagmfhdaaaGreatDoor
