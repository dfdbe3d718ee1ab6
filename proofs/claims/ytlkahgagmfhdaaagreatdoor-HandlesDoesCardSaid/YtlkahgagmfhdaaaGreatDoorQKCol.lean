import Derived.Test.YtlkahgagmfhdaaaGreatDoorQSoAll
import Derived.Test.YtlkahgagmfhdaaaGreatDoorQMake
import Derived.Test.YtlkahgagmfhdaaaGreatDoorQAll
import Derived.Test.YtlkahgagmfhdaaaGreatDoorQUntil
import Derived.Test.YtlkahgagmfhdaaaGreatDoorQRoundW
import Derived.Test.YtlkahgagmfhdaaaGreatDoorQLive
import Derived.Test.YtlkahgagmfhdaaaGreatDoorQHdF
import Derived.Carry
import Derived.Sort.CutIn
import Derived.Deep.RegionHeld3
set_option linter.unusedVariables false
set_option linter.unusedSimpArgs false
set_option linter.unusedSectionVars false
namespace Go.Proofs.YtlkahgagmfhdaaaGreatDoor
section
open Go.RowKit
attribute [local go_sem] Oper.semAt_some
def PlA (w:World) (g:Nat) (pl:List (Nat × Nat)):Prop:=g<w.heap.size∧∀ k q,pl[k]? = some q→w.cell? ⟨g,k*2,none⟩=some (.int .u32 (q.1:Int))∧w.cell? ⟨g,k*2+1,none⟩=some (.int .u32 (q.2:Int))
theorem PlA.same {w w':World} {g:Nat} {pl:List (Nat × Nat)} (h:PlA w g pl) (hz:w.heap.size≤w'.heap.size) (he:w'.heap[g]? = w.heap[g]?):PlA w' g pl:=
 ⟨Nat.lt_of_lt_of_le h.1 hz,fun k q hk=>⟨(World.cell?_of_block he).trans (h.2 k q hk).1,(World.cell?_of_block he).trans (h.2 k q hk).2⟩⟩
theorem own_two {w:World} {B n:Nat} {v:Value} {pl:List (Nat × Nat)} (O:w.ownsRow B 176 2 v n (mvs pl)):
 ∃ A g c,v = .slice A n c∧B≤g∧(0<n→A=some ⟨g,0,none⟩∧PlA w g pl):=by
 rcases O.2 with ⟨h1,h2⟩ | ⟨g,cap,cur,h1,h2,h3,h4,h5,h6,h7⟩
 ·subst h2
  exact⟨none,B,0,h1,Nat.le_refl _,fun h=>absurd h (Nat.lt_irrefl _)⟩
 ·refine⟨_,g,cap,h1,h2,fun _=>⟨rfl,(Array.getElem?_eq_some_iff.1 h3).1,fun k q hk=>?_⟩⟩
  have hb:Blk w g 176 cur:=h3
  obtain⟨g1,g2⟩:=mvs_get pl k 0 q hk
  rw [← h7,List.getElem?_take] at g1 g2
  have hc:∀ i:Nat,cur[i]? = cur.toList[i]? :=fun i=>by simp
  constructor
  ·refine (hb.cell _).trans ?_
   rw [hc]
   split at g1
   ·exact g1
   ·cases g1
  ·refine (hb.cell _).trans ?_
   rw [hc]
   split at g2
   ·exact g2
   ·cases g2
def mvd (pl:List (Nat × Nat)):Nat:=(pl.filter (fun p=>decide (p.1≠p.2))).length
set_option maxRecDepth 100000 in
set_option maxHeartbeats 8000000 in
theorem collect_any {w:World} {p:HP} {h:HM} {l:List Ob} (H:HAt w p h) (G:h.Good l) (hs:Spares w) (hsp:∀ k,w.heap.size≤k→k≠0∧k≠0):
 Calls Tryz.prog 28 #[ptr p.g] w (Made p (colH h l) (colV h l) w):=by
 have HH:=Lib.hid (fun (w':World) (hb:Below w.heap.size w w')=>H.below hb)
 have HS:=Lib.hid (fun (w':World) (hb:Below w.heap.size w w')=>hs.below hb)
 have HG:=Lib.hid G
 have HSP:=Lib.hid hsp
 have hlo:=G.fit.lo
 have hz:((h.size:Int) == 0)=false:=by simp; omega
 have hb1:Below w.heap.size w (w.alloc (.cells #[.int .i64 0,.int .i64 0,.int .i64 0,.int .i64 0,.int .i64 0] 62)):=(Below.refl _ _).alloc (Nat.le_refl _) _
 have HF1:=Lib.hid hb1
 have HZ1:=Lib.hid (Blk.new w 62 #[.int .i64 0,.int .i64 0,.int .i64 0,.int .i64 0,.int .i64 0])
 have HSZ:=Lib.hid (size_any (HH.out _ hb1) G.fit)
 clear H G hs hsp hb1
 unfold ptr at HSZ ⊢
 refine (callsIn_wide (n:=6)).1 ?_
 refine callsIn_of_wp_marks Tryz.func28 rfl trivial ?_ rfl
 simp only [Tryz.ntmps28,List.size_toArray,List.length_cons,List.length_nil,Nat.reduceAdd,Nat.reduceSub,Array.replicate_succ,Array.replicate_zero,List.push_toArray,List.append_toArray,List.nil_append,List.cons_append]
 gi_upto_region 1 with fail
 have hg1:w.heap.size<(w.alloc (.cells #[.int .i64 0,.int .i64 0,.int .i64 0,.int .i64 0,.int .i64 0] 62)).heap.size:=by simp
 generalize w.alloc (.cells #[.int .i64 0,.int .i64 0,.int .i64 0,.int .i64 0,.int .i64 0] 62)=W1 at *
 gi_wp2_with fail
 refine⟨trivial,(callsIn_wide.2 HSZ.out).mono ?_⟩
 rintro e w1 ⟨rfl,rfl⟩
 clear HSZ
 have hmm:=@run_makeMap Tryz.prog
 gi_wp2_with fail
 have M0:=mov_start W1 (.pointer (some ⟨p.g,0,none⟩))
 have hb3:Below W1.heap.size W1 (((W1.alloc (.map #[] 0)).alloc (.cells #[.int .u32 0] 32)).alloc (.cells #[.pointer (some ⟨p.g,0,none⟩),.map (some W1.heap.size),.slice (some ⟨W1.heap.size+1,0,none⟩) 1 1,.int .i64 0,.int .i64 0,.int .i64 0,.int .i64 0,.int .i64 0] 172)):=
  (((Below.refl _ _).alloc (Nat.le_refl _) _).alloc (by simp) _).alloc (by simp; omega) _
 have HF3:=Lib.hid (below_top HF1.out hb3)
 have HZ3:=Lib.hid (HZ1.out.below hb3 HZ1.out.lt)
 generalize ((W1.alloc (.map #[] 0)).alloc (.cells #[.int .u32 0] 32)).alloc (.cells #[.pointer (some ⟨p.g,0,none⟩),.map (some W1.heap.size),.slice (some ⟨W1.heap.size+1,0,none⟩) 1 1,.int .i64 0,.int .i64 0,.int .i64 0,.int .i64 0,.int .i64 0] 172)=W3 at *
 have HPL:=Lib.hid (plan_any (HH.out _ HF3.out) HG.out (HS.out _ HF3.out))
 have HMG:=Lib.hid (show w.heap.size<W1.heap.size from hg1)
 clear HF1 HZ1 hg1 hb3 hmm
 rw [show W1.heap.size+2=W1.heap.size+1+1 from rfl] at M0
 have hmne:W1.heap.size≠W1.heap.size+1+1:=by omega
 have hown0:∀ k,(Value.slice (some ⟨W1.heap.size+1,0,none⟩) 1 1).ownBlock=some k→W1.heap.size≤k:=fun k hk=>by
  simp only [Value.ownBlock] at hk
  injection hk with hk
  omega
 have hown1:∀ k,(Value.slice (some ⟨W1.heap.size+1,0,none⟩) 1 1).ownBlock=some k→k<W3.heap.size:=fun k hk=>(M0.own.lt k hk).2
 generalize (Value.slice (some ⟨W1.heap.size+1,0,none⟩) 1 1)=v0 at *
 unfold ptr at HPL
 generalize hmgE:W1.heap.size+1+1=mg at *
 have HV0:=Lib.hid (show ∀ k,v0.ownBlock=some k→W1.heap.size≤k∧k<W3.heap.size from fun k hk=>⟨hown0 k hk,hown1 k hk⟩)
 clear hown0 hown1
 have HB3:=Lib.hid (show W1.heap.size≤W3.heap.size by have:=M0.map.lt; omega)
 clear hmgE
 generalize W1.heap.size=mb at *
 refine⟨trivial,(callsIn_wide.2 HPL.out).mono ?_⟩
 rintro e W4 ⟨vp,rfl,hown,hb4⟩
 obtain⟨Ap,gp,cp,rfl,hgp,hA⟩:=own_two hown
 have HA:=Lib.hid hA
 have HM4:=Lib.hid (M0.below hb4)
 have HF4:=Lib.hid (below_top HF3.out hb4)
 have HZ4:=Lib.hid (HZ3.out.below hb4 HZ3.out.lt)
 have HG3:=Lib.hid (show W3.heap.size≤gp∧W3.heap.size≤W4.heap.size∧mg<W3.heap.size∧mb<W3.heap.size from⟨hgp,hb4.size,M0.box.lt,M0.map.lt⟩)
 have HND:=Lib.hid (show ((planM h l).map (·.1)).Nodup by rw [planM_fst,← keepZ_fst]; exact keepZ_nodup h l)
 have HP32:=Lib.hid (show ∀ (k:Nat) (q:Nat × Nat),(planM h l)[k]? = some q→q.1<4294967296∧q.2<4294967296 from fun k q hk=>by
  have hm:=List.mem_of_getElem? hk
  have h1:q.1∈liveO h l:=by rw [← planM_fst]; exact List.mem_map.2 ⟨q,hm,rfl⟩
  refine⟨isB_u32 HG.out (walk_isB HG.out HG.out.sound.roots _ ((mem_liveO HG.out).1 h1)),?_⟩
  rw [← goesM_at HND.out hk]
  exact goes_lt HG.out _)
 have HPN:=Lib.hid (show (planM h l).length≤1048576 by
  have h1:=congrArg List.length (planM_fst h l)
  rw [List.length_map] at h1
  have h2:=(List.filter_sublist (l:=oopsL l) (p:=fun o=>decide (o∈metO (walkM (heldM h) h.roots)))).length_le
  have h3:=oopsL_le HG.out
  unfold liveO at h1
  omega)
 have hpn:=HPN.out
 have HMV:=Lib.hid (show movedN h l=mvd (planM h l) from rfl)
 have HLV:=Lib.hid (show (liveO h l).length=(planM h l).length by rw [← planM_fst,List.length_map])
 clear hown hA M0 hb4 HF3 HZ3 HPL hgp
 gi_wp2_with fail
 gi_loopw [27] (fun iv wr=>∃ k:Nat,iv = .int .i64 k∧k≤(planM h l).length∧MovAt wr mb mg mb (.pointer (some ⟨p.g,0,none⟩)) v0 [0] ((planM h l).take k) 0 0 0 (mvd ((planM h l).take k)) 0∧Fr2 mg mb W4 wr) (fun iv _=>(planM h l).length-(intOf iv).toNat)
 case atStart=>exact⟨0,rfl,by omega,HM4.out,Fr2.refl _ _ _⟩
 case round=>
  clear HM4
  obtain⟨k,rfl,hk,hm,hf⟩:=hrel
  have HM:=Lib.hid hm
  have HF:=Lib.hid hf
  clear hm hf
  by_cases hlt:k<(planM h l).length
  ·obtain⟨rfl,hpa⟩:=HA.out (by omega)
   have hq:=List.getElem?_eq_getElem hlt
   have HQ:=Lib.hid (hpa.same HF.out.size (HF.out.same gp hpa.1 (by have:=HG3.out; omega) (by have:=HG3.out; omega)))
   obtain⟨hc0,hc1⟩:=HQ.out.2 k _ hq
   obtain⟨hq1,hq2⟩:=HP32.out k _ hq
   have htk:(planM h l).take (k+1)=(planM h l).take k++[(planM h l)[k]]:=by rw [List.take_add_one,hq]; rfl
   have HTK:=Lib.hid htk
   have HNI:=Lib.hid (show ((planM h l)[k]).1∉((planM h l).take k).map (·.1) from fun hx=>by
    have h1:(((planM h l).take (k+1)).map (·.1)).Nodup:=(List.take_sublist (k+1) _ |>.map _).nodup HND.out
    rw [htk,List.map_append,List.nodup_append] at h1
    exact h1.2.2 _ hx _ (by simp) rfl)
   clear hpa htk hq
   generalize (planM h l)[k]=q at *
   obtain⟨x,y⟩:=q
   simp only at hc0 hc1 hq1 hq2
   gi_wp2_with fail
   have hb5:Below wr.heap.size wr (wr.alloc (.cells #[.int .u32 (x:Int),.int .u32 (y:Int)] 176)):=(Below.refl _ _).alloc (Nat.le_refl _) _
   have HM5:=Lib.hid (HM.out.below hb5)
   have HX5:=Lib.hid (Blk.new wr 176 #[.int .u32 (x:Int),.int .u32 (y:Int)])
   have HF5:=Lib.hid (HF.out.trans (Fr2.of_below hb5))
   have HG5:=Lib.hid (show mg<wr.heap.size∧mb<wr.heap.size from⟨HM.out.box.lt,HM.out.map.lt⟩)
   clear hb5 HM HF hc0 hc1 HQ
   generalize wr.alloc (.cells #[.int .u32 (x:Int),.int .u32 (y:Int)] 176)=W5 at *
   generalize wr.heap.size=b6 at *
   refine wpIn_region_W 8 (fun w'=>w'.cell? ⟨mg,1,none⟩=some (.map (some mb))∧w'.cell? ⟨b6,0,none⟩=some (.int .u32 (x:Int))∧w'.cell? ⟨b6,1,none⟩=some (.int .u32 (y:Int))) (by kernel_rfl) (by kernel_rfl) ?_
   have HMq:=Lib.hid HM5.out.drew
   have HXq:=Lib.hid (show Blk W5.drew b6 176 #[.int .u32 (x:Int),.int .u32 (y:Int)] from HX5.out)
   have HFq:=Lib.hid (HF5.out.trans (Fr2.of_below (⟨rfl,rfl,rfl,Nat.le_refl _,fun _ _=>rfl⟩ :Below W5.heap.size W5 W5.drew)))
   clear HM5 HX5 HF5
   generalize W5.drew=Wq at *
   obtain⟨W9,hpt,hM9,hg9⟩:=mov_put (q:=(x,y)) HMq.out HNI.out hq1 hq2 (by rw [List.length_take]; omega)
   simp only at hpt
   have HM9:=Lib.hid hM9
   have hb69:b6≠mb:=fun e=>by have:=HG5.out; omega
   have HX9:=Lib.hid (HXq.out.same (hg9.block b6 HXq.out.lt (fun e=>hb69 (by first | exact Option.some.inj e | exact (Option.some.inj e).symm))))
   have HF9:=Lib.hid (HFq.out.trans (Fr2.grown hg9))
   have hS:Wq.cell? ⟨mg,1,none⟩=some (.map (some mb))∧Wq.cell? ⟨b6,0,none⟩=some (.int .u32 (x:Int))∧Wq.cell? ⟨b6,1,none⟩=some (.int .u32 (y:Int)):=⟨HMq.out.box.cell 1,HXq.out.cell 0,HXq.out.cell 1⟩
   clear hM9 hg9 HMq HXq HFq
   refine U_read 0 (v:=(.pointer (some ⟨mg,0,none⟩))) rfl (by kernel_rfl) (fun _ _ _ h=>h) hS (by rfl) (fun w' hw'=>by obtain⟨h0,h1,h2⟩:=hw'; go_simp) ?_
   try simp only [Act.put,List.setIfInBounds_toArray,List.set_cons_zero,List.set_cons_succ]
   refine U_read 1 (v:=(.pointer (some ⟨mg,0,none⟩))) rfl (by kernel_rfl) (fun _ _ _ h=>h) hS (by rfl) (fun w' hw'=>by obtain⟨h0,h1,h2⟩:=hw'; go_simp) ?_
   try simp only [Act.put,List.setIfInBounds_toArray,List.set_cons_zero,List.set_cons_succ]
   refine U_read 2 (v:=(.pointer (some ⟨mg,1,none⟩))) rfl (by kernel_rfl) (fun _ _ _ h=>h) hS (by rfl) (fun w' hw'=>by obtain⟨h0,h1,h2⟩:=hw'; go_simp) ?_
   try simp only [Act.put,List.setIfInBounds_toArray,List.set_cons_zero,List.set_cons_succ]
   refine U_read 3 (v:=(.map (some mb))) rfl (by kernel_rfl) (fun _ _ _ h=>h) hS (by rfl) (fun w' hw'=>by obtain⟨h0,h1,h2⟩:=hw'; go_simp) ?_
   try simp only [Act.put,List.setIfInBounds_toArray,List.set_cons_zero,List.set_cons_succ]
   refine U_read 4 (v:=(.pointer (some ⟨b6,0,none⟩))) rfl (by kernel_rfl) (fun _ _ _ h=>h) hS (by rfl) (fun w' hw'=>by obtain⟨h0,h1,h2⟩:=hw'; go_simp) ?_
   try simp only [Act.put,List.setIfInBounds_toArray,List.set_cons_zero,List.set_cons_succ]
   refine U_read 5 (v:=(.int .u32 (x:Int))) rfl (by kernel_rfl) (fun _ _ _ h=>h) hS (by rfl) (fun w' hw'=>by obtain⟨h0,h1,h2⟩:=hw'; go_simp) ?_
   try simp only [Act.put,List.setIfInBounds_toArray,List.set_cons_zero,List.set_cons_succ]
   refine U_read 6 (v:=(.pointer (some ⟨b6,1,none⟩))) rfl (by kernel_rfl) (fun _ _ _ h=>h) hS (by rfl) (fun w' hw'=>by obtain⟨h0,h1,h2⟩:=hw'; go_simp) ?_
   try simp only [Act.put,List.setIfInBounds_toArray,List.set_cons_zero,List.set_cons_succ]
   refine U_read 7 (v:=(.int .u32 (y:Int))) rfl (by kernel_rfl) (fun _ _ _ h=>h) hS (by rfl) (fun w' hw'=>by obtain⟨h0,h1,h2⟩:=hw'; go_simp) ?_
   try simp only [Act.put,List.setIfInBounds_toArray,List.set_cons_zero,List.set_cons_succ]
   refine U_one 8 (by kernel_rfl) rfl rfl (fun K hK=>?_)
   go_simp
   refine hK _ _ (fun h=>absurd h (by decide)) ?_
   clear hK K
   try simp only [Act.put,List.setIfInBounds_toArray,List.set_cons_zero,List.set_cons_succ]
   refine U_done (by kernel_rfl) ?_ _
   simp only [Calm,Exit.then]
   clear hS hpt
   have x0:=HX9.out.cell 0
   have x1:=HX9.out.cell 1
   have hmvl:mvd ((planM h l).take k)≤1048576:=by
    have h1:=List.length_filter_le (fun p:Nat × Nat=>decide (p.1≠p.2)) ((planM h l).take k)
    rw [List.length_take] at h1
    unfold mvd
    omega
   have HMD:=Lib.hid (show mvd ((planM h l).take (k+1))=mvd ((planM h l).take k)+(if x=y then 0 else 1) by
    rw [HTK.out]
    unfold mvd
    rw [List.filter_append,List.length_append]
    congr 1
    by_cases e:x=y
    ·simp [e]
    ·simp [e])
   have hm6:=HM9.out.box.cell 6
   have hz6:=HM9.out.box.frozen 6
   rw [← HTK.out] at HM9
   clear HX9 hb69 HNI HTK
   by_cases hxy:x=y
   ·have hne:((x:Int) != (y:Int))=false:=by simp [hxy]
    have HE:=Lib.hid (show mvd ((planM h l).take (k+1))=mvd ((planM h l).take k) by rw [HMD.out,if_pos hxy]; rfl)
    clear hxy HMD hm6 hz6
    rw [← HE.out] at HM9
    gi_wp2_with fail
    go_roundw
    case rel=>exact⟨k+1,by go_num,by omega,HM9.out,HF9.out⟩
    case measure=>simp [intOf]; omega
   ·have hne:((x:Int) != (y:Int))=true:=by simp; omega
    have HE:=Lib.hid (show mvd ((planM h l).take (k+1))=mvd ((planM h l).take k)+1 by rw [HMD.out,if_neg hxy])
    clear hxy HMD
    generalize mvd ((planM h l).take k)=T at *
    have HM0:=Lib.hid (mov_cells (w':=W9.setCell ⟨mg,6,none⟩ (.int .i64 ((T:Int)+1))) (u0:=0) (u1:=0) (u2:=0) (u3:=T+1) (u4:=0) HM9.out (HM9.out.box.set_ 6 _) (fun q hq=>Below.heap_setCell W9 ⟨mg,6,none⟩ _ q hq))
    have HF0:=Lib.hid (HF9.out.trans (Fr2.setA (b:=mb) W9 ⟨mg,6,none⟩ (.int .i64 ((T:Int)+1))))
    rw [← HE.out] at HM0
    clear HM9 HF9
    gi_wp2_with fail
    go_roundw
    case rel=>exact⟨k+1,by go_num,by omega,HM0.out,HF0.out⟩
    case measure=>simp [intOf]; omega
  ·obtain rfl:k=(planM h l).length:=by omega
   have hE:=HM.out
   rw [List.take_length] at hE
   have HME:=Lib.hid hE
   clear hE HM
   have hb7:Below wr.heap.size wr (wr.alloc (.cells #[.int .i64 0] 3)):=(Below.refl _ _).alloc (Nat.le_refl _) _
   have HM7:=Lib.hid (HME.out.below hb7)
   have HB7:=Lib.hid (Blk.new wr 3 #[.int .i64 0])
   have HG6:=Lib.hid (show mg<wr.heap.size∧mb<wr.heap.size∧W4.heap.size≤wr.heap.size from⟨HME.out.box.lt,HME.out.map.lt,HF.out.size⟩)
   have HF7:=Lib.hid (show Below w.heap.size w (wr.alloc (.cells #[.int .i64 0] 3)) from below_top (HF4.out.trans (HF.out.below (by have:=HG3.out; have:=HMG.out; have:=HME.out.hg; omega) (by have:=HMG.out; omega) HF4.out.size)) hb7)
   have HZ7:=Lib.hid ((HZ4.out.same (HF.out.same _ HZ4.out.lt (by have:=HME.out.hg; have:=HMG.out; omega) (by have:=HMG.out; omega))).below hb7 (HZ4.out.same (HF.out.same _ HZ4.out.lt (by have:=HME.out.hg; have:=HMG.out; omega) (by have:=HMG.out; omega))).lt)
   have HA7:=Lib.hid (show 0<(planM h l).length→Ap=some ⟨gp,0,none⟩∧PlA (wr.alloc (.cells #[.int .i64 0] 3)) gp (planM h l) from fun hn=>by
    obtain⟨e,ha⟩:=HA.out hn
    have h1:=ha.same HF.out.size (HF.out.same gp ha.1 (by have:=HG3.out; omega) (by have:=HG3.out; omega))
    exact⟨e,h1.same hb7.size (hb7.block _ h1.1)⟩)
   have HGA:=Lib.hid (show gp<W4.heap.size∨(planM h l).length=0 from by
    by_cases h0:0<(planM h l).length
    ·exact .inl (HA.out h0).2.1
    ·exact .inr (by omega))
   clear hb7 HA HF4 HZ4 HME HF
   gi_upto_region 13 with fail
   generalize hbA:wr.heap.size=bA at *
   generalize wr.alloc (.cells #[.int .i64 0] 3)=W7 at *
   clear hbA
   gi_wp2_with fail
   refine⟨trivial,(callsIn_wide.2 (all_any p.g W7)).mono ?_⟩
   rintro e W8 ⟨rfl,rfl⟩
   have hb8:Below W7.heap.size W7 (W7.alloc (.cells #[ptr p.g] 23)):=(Below.refl _ _).alloc (Nat.le_refl _) _
   have HBH:=Lib.hid (Blk.new W7 23 #[ptr p.g])
   have HM8:=Lib.hid (HM7.out.below hb8)
   have HB8:=Lib.hid (HB7.out.below hb8 HB7.out.lt)
   have HF8:=Lib.hid (below_top HF7.out hb8)
   have HZ8:=Lib.hid (HZ7.out.below hb8 HZ7.out.lt)
   have HA8:=Lib.hid (show 0<(planM h l).length→Ap=some ⟨gp,0,none⟩∧PlA (W7.alloc (.cells #[ptr p.g] 23)) gp (planM h l) from fun hn=>⟨(HA7.out hn).1,(HA7.out hn).2.same hb8.size (hb8.block _ (HA7.out hn).2.1)⟩)
   have HG8:=Lib.hid (show bA<W7.heap.size from HB7.out.lt)
   have HH8:=Lib.hid (HH.out _ HF8.out)
   have HS8:=Lib.hid (HS.out _ HF8.out)
   have hspA:0<bA:=by
    have:=World.block_lt_of_cell? _ _ ((HS.out w (Below.refl _ _)) 0 (by omega))
    simp only at this
    have:=HG6.out
    have:=HMG.out
    omega
   have HPW:=Lib.hid (show ∀ j,p.has j→j<w.heap.size from fun j hj=>(HH.out w (Below.refl _ _)).lt hj)
   have h80:W7.heap.size<(W7.alloc (.cells #[ptr p.g] 23)).heap.size:=by simp
   clear HM7 HB7 HF7 HZ7 HA7 hb8
   unfold ptr at HBH
   gi_wp2_with fail
   unfold ptr at *
   generalize W7.alloc (.cells #[.pointer (some ⟨p.g,0,none⟩)] 23)=W0 at *
   generalize W7.heap.size=bH at *
   refine wpIn_rangeFunc_ownH (F:=Fence.wide) rfl (by omega) (gf:=129) (lb:=#[.pointer (some ⟨bH,0,none⟩)]) rfl trivial (enters_of Tryz.func129 (by kernel_rfl) rfl)
    (all_stops HH8.out HG.out HS8.out 5 bH bA (HBH.out.cell 0) hspA) KpB.trans (fun W l o o' _ h1 h2 _=>KpB.book W l o o' h1 h2) (Below.refl _ _) (fun _=>rfl)
    (fun pre W=>Blk W bA 3 #[.int .i64 (pre.length:Nat)]∧(∀ k,k<W0.heap.size→k≠bA→W.heap[k]? = W0.heap[k]?)∧Below w.heap.size w W∧W0.heap.size≤W.heap.size)
    (fun c pre W=>False)
    (fun pre A B row hs hg hr=>⟨blk_ownW hs.1 hg hr,fun k h1 h2=>(hg.block k (by have:=hs.2.2.2; omega) (fun e=>by have:=(hr k e.symm).1; omega)).trans (hs.2.1 k h1 h2),hs.2.2.1.grown hg hs.2.2.1.size (fun k e=>by have h1:=(hr k e).1; have h2:=HF8.out.size; omega),Nat.le_trans hs.2.2.2 hg.size⟩)
    (fun c pre A B row hs hg hr=>hs.elim)
    ⟨HB8.out,fun _ _ _=>rfl,HF8.out,Nat.le_refl _⟩
    (fun x a' W=>a'={ tmps:=#[.pointer (some ⟨p.g,0,none⟩),undef,.pointer (some ⟨w.heap.size,0,none⟩),.pointer (some ⟨mg,0,none⟩),.slice Ap (planM h l).length cp,undef,u6,.pointer (some ⟨bA,0,none⟩),undef,undef,undef,undef,undef,undef,.pointer (some ⟨p.g,0,none⟩),.int .i64 (h.size:Int),.bool false,undef,.pointer (some ⟨p.g,0,none⟩),.map (some mb),v0,.agg #[.pointer (some ⟨p.g,0,none⟩),.map (some mb),v0,.int .i64 0,.int .i64 0,.int .i64 0,.int .i64 0,.int .i64 0],.pointer (some ⟨mg,0,none⟩),.pointer (some ⟨p.g,0,none⟩),.slice Ap (planM h l).length cp,.slice Ap (planM h l).length cp,.int .i64 ((planM h l).length:Int),.int .i64 ((planM h l).length:Int),.bool false,u29,u30,u31,u32,u33,u34,u35,u36,u37,u38,u39,u40,u41,u42,u43,u44,u45,u46,u47,u48,u49,u50,u51,u52,u53,.pointer (some ⟨p.g,0,none⟩),.func (.func 129) #[] #[.pointer (some ⟨bH,0,none⟩)],.int .u32 ((2*posOf (l.take x.1):Nat):Int),(l[x.1]'x.2).x.val,undef,undef,undef,undef,undef,undef,undef,undef,undef,undef,undef,undef,undef,undef,undef,undef,undef,undef,undef,undef,undef,undef,undef,undef,undef,undef,undef,undef,undef,undef,undef,undef,undef,undef,undef,undef,undef,undef,undef,undef,undef,undef,undef,undef,undef,undef,undef,undef,undef,undef,undef,undef,undef,undef,undef,undef,undef,undef,undef,undef,undef,undef,undef,undef,undef,undef,undef,undef,undef,undef,undef,undef,undef,undef,undef,undef,undef],defers:=[] })
    (fun x a' _ X Y row hs hg hr=>hs)
    ?assign ?body ?done ?stop
   case assign=>
    rintro lp pre x W K hI hK
    rw [show allV l x=#[.int .u32 ((2*posOf (l.take x.1):Nat):Int),(l[x.1]'x.2).x.val] from rfl]
    have HI0:=Lib.hid hI
    have HK:=Lib.hid hK
    clear hK hI
    generalize (l[x.1]'x.2).x.val=X at *
    generalize 2*posOf (l.take x.1)=o at *
    gi_wp2_with fail
    exact HK.out _ _ ((KeepsOthers.refl _).from _) (KpB.refl _ _ _) HI0.out rfl
   case body=>
    rintro lp pre x a' W hl hlr ⟨B1,K1,F1,Z1⟩ rfl hltx
    have hpl:pre.length≤1048576:=by have h1:=oopsL_le HG.out; rw [oopsL_len] at h1; omega
    have hwi:IntKind.i64.wrap ((pre.length:Int)+1)=(pre.length:Int)+1:=IntWalk.i64_in _ (by omega)
    have y1:=B1.cell 0
    have f1:=B1.frozen 0
    have hbA0:bA<W0.heap.size:=HB8.out.lt
    have hne:∀ k,k≠bA→(W.setCell ⟨bA,0,none⟩ (.int .i64 ((pre.length:Int)+1))).heap[k]? = W.heap[k]? :=fun k h=>Below.heap_setCell W ⟨bA,0,none⟩ _ k h
    have hsz:(W.setCell ⟨bA,0,none⟩ (.int .i64 ((pre.length:Int)+1))).heap.size=W.heap.size:=by simp [World.setCell]
    have HFN:=Lib.hid (show KeepsFrom W0.heap.size W (W.setCell ⟨bA,0,none⟩ (.int .i64 ((pre.length:Int)+1)))∧KpB bA W0.heap.size W (W.setCell ⟨bA,0,none⟩ (.int .i64 ((pre.length:Int)+1)))∧
     Blk (W.setCell ⟨bA,0,none⟩ (.int .i64 ((pre.length:Int)+1))) bA 3 #[.int .i64 ((pre++[x]).length:Nat)]∧
     (∀ k,k<W0.heap.size→k≠bA→(W.setCell ⟨bA,0,none⟩ (.int .i64 ((pre.length:Int)+1))).heap[k]? = W0.heap[k]?)∧Below w.heap.size w (W.setCell ⟨bA,0,none⟩ (.int .i64 ((pre.length:Int)+1)))∧
     W0.heap.size≤(W.setCell ⟨bA,0,none⟩ (.int .i64 ((pre.length:Int)+1))).heap.size from by
     refine⟨⟨Nat.le_of_eq hsz.symm,fun k o' hk ho' hc=>(hne k (by omega)).trans ho'⟩,(KpB.refl bA W0.heap.size W).setCell (Nat.le_refl _) hbA0 _,?_,fun k h1 h2=>(hne k h2).trans (K1 k h1 h2),F1.setCell (p:=⟨bA,0,none⟩) (by have:=HG6.out; have:=HMG.out; simp only; omega) _,by rw [hsz]; exact Z1⟩
     rw [show (((pre++[x]).length:Nat):Int)=(pre.length:Int)+1 by simp]
     exact B1.set_ 0 _)
    clear hne hsz B1 K1 F1
    apply wpIn_block
    gi_wp2_with fail
    exact HFN.out
   case done=>
    rintro D xs W hD rfl ⟨B1,K1,F1,Z1⟩ hK
    rw [List.length_finRange] at B1
    gi_upto_region 15 with fail
    have HLE:=Lib.hid (show (planM h l).length≤l.length by
     have h1:=congrArg List.length (planM_fst h l)
     rw [List.length_map] at h1
     have h2:=(List.filter_sublist (l:=oopsL l) (p:=fun o=>decide (o∈metO (walkM (heldM h) h.roots)))).length_le
     rw [oopsL_len] at h2
     unfold liveO at h1
     omega)
    have HLL:=Lib.hid (show l.length≤1048576 by have h1:=oopsL_le HG.out; rw [oopsL_len] at h1; exact h1)
    have hbAg:mg<bA∧mb<bA:=⟨HG6.out.1,HG6.out.2.1⟩
    have hbA0:bA<W0.heap.size:=HB8.out.lt
    have HM1:=Lib.hid (mov_same HM8.out (K1 mg HM8.out.box.lt (by omega)) (K1 mb HM8.out.map.lt (by omega)) (fun k hk=>K1 k (HM8.out.own.lt k hk).2 (by have:=HV0.out k hk; have:=HG3.out; have:=HG6.out; omega)))
    have HB1:=Lib.hid B1
    have HF1:=Lib.hid F1
    have HZ1:=Lib.hid (HZ8.out.same (K1 _ HZ8.out.lt (by have:=HMG.out; omega)))
    have HA1:=Lib.hid (show 0<(planM h l).length→Ap=some ⟨gp,0,none⟩∧PlA W gp (planM h l) from fun hn=>⟨(HA8.out hn).1,(HA8.out hn).2.same Z1 (K1 gp (HA8.out hn).2.1 (by have:=HG6.out; have:=HGA.out; omega))⟩)
    have HK:=Lib.hid hK
    have hcv:((l.length-(planM h l).length:Nat):Int)=(l.length:Int)-((planM h l).length:Int):=by have:=HLE.out; omega
    have hws:IntKind.i64.wrap ((l.length:Int)-((planM h l).length:Int))=(l.length:Int)-((planM h l).length:Int):=IntWalk.i64_in _ (by have:=HLL.out; omega)
    have HCV:=Lib.hid hcv
    clear B1 K1 F1 hK HM8 HB8 HF8 HZ8 HA8 HH8 HS8 HBH h80 hspA hcv
    refine wpIn_region_W 15 (fun w'=>w'.cell? ⟨bA,0,none⟩=some (.int .i64 (l.length:Int))∧True) (by kernel_rfl) (by kernel_rfl) ?_
    have hbd:Below W.heap.size W W.drew:=⟨rfl,rfl,rfl,Nat.le_refl _,fun _ _=>rfl⟩
    have HM2:=Lib.hid (HM1.out.below hbd)
    have hBAq:Blk W.drew bA 3 #[.int .i64 (l.length:Int)]:=HB1.out
    have hS:W.drew.cell? ⟨bA,0,none⟩=some (.int .i64 (l.length:Int))∧True:=⟨hBAq.cell 0,trivial⟩
    have HF2:=Lib.hid (below_top HF1.out hbd)
    have HZ2:=Lib.hid (HZ1.out.below hbd HZ1.out.lt)
    have HA2:=Lib.hid (show 0<(planM h l).length→Ap=some ⟨gp,0,none⟩∧PlA W.drew gp (planM h l) from HA1.out)
    have HK2:=Lib.hid (show W.drew.heap[D]? = some (.deferred (some [])) from HK.out)
    have Z2:W0.heap.size≤W.drew.heap.size:=Z1
    clear hbd HM1 HF1 HZ1 HA1 HK HB1 Z1
    generalize W.drew=Wq at *
    have hm3:=HM2.out.box.cell 3
    have hz3:=HM2.out.box.frozen 3
    have hb3':=HM2.out.box.set_ 3 (.int .i64 ((planM h l).length:Int))
    have hm4:=hb3'.cell 4
    have hz4:=hb3'.frozen 4
    have hS3:(Wq.setCell ⟨mg,3,none⟩ (.int .i64 ((planM h l).length:Int))).cell? ⟨bA,0,none⟩=some (.int .i64 (l.length:Int))∧True:=⟨(World.cell?_of_block (Below.heap_setCell Wq ⟨mg,3,none⟩ _ bA (by simp only; omega))).trans hS.1,trivial⟩
    refine U_read 0 (v:=(.pointer (some ⟨mg,0,none⟩))) rfl (by kernel_rfl) (fun _ _ _ h=>h) hS (by rfl) (fun w' hw'=>by obtain⟨h0,_⟩:=hw'; go_simp) ?_
    try simp only [Act.put,List.setIfInBounds_toArray,List.set_cons_zero,List.set_cons_succ]
    refine U_read 1 (v:=(.pointer (some ⟨mg,0,none⟩))) rfl (by kernel_rfl) (fun _ _ _ h=>h) hS (by rfl) (fun w' hw'=>by obtain⟨h0,_⟩:=hw'; go_simp) ?_
    try simp only [Act.put,List.setIfInBounds_toArray,List.set_cons_zero,List.set_cons_succ]
    refine U_read 2 (v:=(.slice Ap (planM h l).length cp)) rfl (by kernel_rfl) (fun _ _ _ h=>h) hS (by rfl) (fun w' hw'=>by obtain⟨h0,_⟩:=hw'; go_simp) ?_
    try simp only [Act.put,List.setIfInBounds_toArray,List.set_cons_zero,List.set_cons_succ]
    refine U_read 3 (v:=(.int .i64 ((planM h l).length:Int))) rfl (by kernel_rfl) (fun _ _ _ h=>h) hS (by rfl) (fun w' hw'=>by obtain⟨h0,_⟩:=hw'; go_simp) ?_
    try simp only [Act.put,List.setIfInBounds_toArray,List.set_cons_zero,List.set_cons_succ]
    refine U_read 4 (v:=(.int .i64 (l.length:Int))) rfl (by kernel_rfl) (fun _ _ _ h=>h) hS (by rfl) (fun w' hw'=>by obtain⟨h0,_⟩:=hw'; go_simp) ?_
    try simp only [Act.put,List.setIfInBounds_toArray,List.set_cons_zero,List.set_cons_succ]
    refine U_read 5 (v:=(.slice Ap (planM h l).length cp)) rfl (by kernel_rfl) (fun _ _ _ h=>h) hS (by rfl) (fun w' hw'=>by obtain⟨h0,_⟩:=hw'; go_simp) ?_
    try simp only [Act.put,List.setIfInBounds_toArray,List.set_cons_zero,List.set_cons_succ]
    refine U_read 6 (v:=(.int .i64 ((planM h l).length:Int))) rfl (by kernel_rfl) (fun _ _ _ h=>h) hS (by rfl) (fun w' hw'=>by obtain⟨h0,_⟩:=hw'; go_simp) ?_
    try simp only [Act.put,List.setIfInBounds_toArray,List.set_cons_zero,List.set_cons_succ]
    refine U_read 7 (v:=(.int .i64 ((l.length:Int)-((planM h l).length:Int)))) rfl (by kernel_rfl) (fun _ _ _ h=>h) hS (by rfl) (fun w' hw'=>by obtain⟨h0,_⟩:=hw'; go_simp) ?_
    try simp only [Act.put,List.setIfInBounds_toArray,List.set_cons_zero,List.set_cons_succ]
    refine U_read 8 (v:=(.pointer (some ⟨mg,0,none⟩))) rfl (by kernel_rfl) (fun _ _ _ h=>h) hS (by rfl) (fun w' hw'=>by obtain⟨h0,_⟩:=hw'; go_simp) ?_
    try simp only [Act.put,List.setIfInBounds_toArray,List.set_cons_zero,List.set_cons_succ]
    refine U_read 9 (v:=(.pointer (some ⟨mg,3,none⟩))) rfl (by kernel_rfl) (fun _ _ _ h=>h) hS (by rfl) (fun w' hw'=>by obtain⟨h0,_⟩:=hw'; go_simp) ?_
    try simp only [Act.put,List.setIfInBounds_toArray,List.set_cons_zero,List.set_cons_succ]
    refine U_read 10 (v:=(.pointer (some ⟨mg,3,none⟩))) rfl (by kernel_rfl) (fun _ _ _ h=>h) hS (by rfl) (fun w' hw'=>by obtain⟨h0,_⟩:=hw'; go_simp) ?_
    try simp only [Act.put,List.setIfInBounds_toArray,List.set_cons_zero,List.set_cons_succ]
    refine U_one 11 (by kernel_rfl) rfl rfl (fun K hK=>?_)
    go_simp
    refine hK _ _ (fun _=>hS3) ?_
    clear hK K
    try simp only [Act.put,List.setIfInBounds_toArray,List.set_cons_zero,List.set_cons_succ]
    clear hS
    have hS:=hS3
    refine U_one 12 (by kernel_rfl) rfl rfl (fun K hK=>?_)
    go_simp
    refine hK _ _ (fun _=>hS) ?_
    clear hK K
    try simp only [Act.put,List.setIfInBounds_toArray,List.set_cons_zero,List.set_cons_succ]
    refine U_one 13 (by kernel_rfl) rfl rfl (fun K hK=>?_)
    go_simp
    refine hK _ _ (fun _=>hS) ?_
    clear hK K
    try simp only [Act.put,List.setIfInBounds_toArray,List.set_cons_zero,List.set_cons_succ]
    refine U_one 14 (by kernel_rfl) rfl rfl (fun K hK=>?_)
    go_simp
    refine hK _ _ (fun _=>hS) ?_
    clear hK K
    try simp only [Act.put,List.setIfInBounds_toArray,List.set_cons_zero,List.set_cons_succ]
    refine U_one 15 (by kernel_rfl) rfl rfl (fun K hK=>?_)
    go_simp
    refine hK _ _ (fun h=>absurd h (by decide)) ?_
    clear hK K
    try simp only [Act.put,List.setIfInBounds_toArray,List.set_cons_zero,List.set_cons_succ]
    refine U_done (by kernel_rfl) ?_ _
    simp only [Calm,Exit.then]
    have HB9:=Lib.hid hb3'
    clear hS hS3 hm3 hz3 hm4 hz4 hb3' hBAq hws hbAg
    have hmgne:∀ q,q≠mg→((Wq.setCell ⟨mg,3,none⟩ (.int .i64 ((planM h l).length:Int))).setCell ⟨mg,4,none⟩ (.int .i64 ((l.length:Int)-((planM h l).length:Int)))).heap[q]? = Wq.heap[q]? :=fun q hq=>(Below.heap_setCell _ ⟨mg,4,none⟩ _ q hq).trans (Below.heap_setCell _ ⟨mg,3,none⟩ _ q hq)
    have HM3:=Lib.hid (mov_cells (u0:=(planM h l).length) (u1:=l.length-(planM h l).length) (u2:=0) (u3:=mvd (planM h l)) (u4:=0) HM2.out (by rw [HCV.out]; exact HB9.out.set_ 4 _) hmgne)
    have hwmg:w.heap.size<mg:=by have:=HM2.out.hg; have:=HMG.out; omega
    have HF3:=Lib.hid ((HF2.out.setCell (p:=⟨mg,3,none⟩) (Nat.le_of_lt hwmg) (.int .i64 ((planM h l).length:Int))).setCell (p:=⟨mg,4,none⟩) (Nat.le_of_lt hwmg) (.int .i64 ((l.length:Int)-((planM h l).length:Int))))
    have HZ3:=Lib.hid (HZ2.out.same (hmgne _ (by omega)))
    have hszq:((Wq.setCell ⟨mg,3,none⟩ (.int .i64 ((planM h l).length:Int))).setCell ⟨mg,4,none⟩ (.int .i64 ((l.length:Int)-((planM h l).length:Int)))).heap.size=Wq.heap.size:=by simp [World.setCell]
    have HA3:=Lib.hid (show 0<(planM h l).length→Ap=some ⟨gp,0,none⟩∧PlA ((Wq.setCell ⟨mg,3,none⟩ (.int .i64 ((planM h l).length:Int))).setCell ⟨mg,4,none⟩ (.int .i64 ((l.length:Int)-((planM h l).length:Int)))) gp (planM h l) from fun hn=>⟨(HA2.out hn).1,(HA2.out hn).2.same (Nat.le_of_eq hszq.symm) (hmgne gp (by have:=HG3.out; omega))⟩)
    have HK3:=Lib.hid ((hmgne D (by have:=HG6.out; omega)).trans HK2.out)
    have HG9:=Lib.hid (show W0.heap.size≤((Wq.setCell ⟨mg,3,none⟩ (.int .i64 ((planM h l).length:Int))).setCell ⟨mg,4,none⟩ (.int .i64 ((l.length:Int)-((planM h l).length:Int)))).heap.size by rw [hszq]; exact Z2)
    clear HM2 HF2 HZ2 HA2 HK2 Z2 hmgne hszq HB9
    generalize (Wq.setCell ⟨mg,3,none⟩ (.int .i64 ((planM h l).length:Int))).setCell ⟨mg,4,none⟩ (.int .i64 ((l.length:Int)-((planM h l).length:Int)))=W9 at *
    have HRT:=Lib.hid (roots_any (HH.out W9 HF3.out) HG.out.fit)
    unfold ptr at HRT
    have HL2:=Lib.hid (show (u32s h.roots).length=64 by rw [u32s_len]; exact HG.out.fit.roots)
    gi_wp2_with fail
    refine⟨trivial,(callsIn_wide.2 HRT.out).mono ?_⟩
    rintro e w10 ⟨gr,cr,rfl,hrr,hgr,hb10⟩
    rw [HL2.out]
    have HRR:=Lib.hid hrr
    have HB10:=Lib.hid hb10
    clear hrr hb10 HRT
    gi_wp2_with fail
    gi_loopw [78] (fun iv wr=>∃ k:Nat,iv = .int .i64 k∧k≤64∧Row wr gr 54 cr (u32s ((h.roots.take k).map (whereM (planM h l))++h.roots.drop k))∧Below W9.heap.size W9 wr) (fun iv _=>64-(intOf iv).toNat)
    case atStart=>exact⟨0,rfl,by omega,by simpa using HRR.out,HB10.out⟩
    case round=>
     clear HRR HB10
     obtain⟨k,rfl,hk,hro,hb⟩:=hrel
     have HRO:=Lib.hid hro
     have HB:=Lib.hid hb
     clear hro hb
     by_cases hlt:k<64
     ·have hlr:k<h.roots.length:=by rw [HG.out.fit.roots]; exact hlt
      have hcl:=HRO.out.cell (u32s_get (l:=(h.roots.take k).map (whereM (planM h l))++h.roots.drop k) (i:=k) (by simp; omega))
      rw [map_elem _ _ _ hlr] at hcl
      have hr32:h.roots.getD k 0<4294967296:=by
       have:=List.getElem_mem hlr
       rw [List.getD_eq_getElem?_getD,List.getElem?_eq_getElem hlr]
       exact HG.out.fit.r32 _ this
      have HWX:=Lib.hid (where_any (HM3.out.below HB.out) hr32)
      have HST:=Lib.hid (map_step (whereM (planM h l)) h.roots k hlr)
      have hcn:(wr.cell? ⟨gr,k,none⟩).isSome=true:=by rw [hcl]; rfl
      clear hlr hr32
      generalize h.roots.getD k 0=r at *
      generalize whereM (planM h l) r=r' at *
      gi_wp2_with fail
      refine⟨trivial,(callsIn_wide.2 HWX.out).mono ?_⟩
      rintro e w11 ⟨rfl,rfl⟩
      have hzk:=HRO.out.frozen k
      have HR1:=Lib.hid (HRO.out.set k (.int .u32 (r':Int)))
      rw [HST.out] at HR1
      have HB1:=Lib.hid (HB.out.setCell (p:=⟨gr,k,none⟩) hgr (.int .u32 (r':Int)))
      clear HRO HB HWX HST
      gi_wp2_with fail
      go_roundw
      case rel=>exact⟨k+1,by go_num,by omega,HR1.out,HB1.out⟩
      case measure=>simp [intOf]; omega
     ·obtain rfl:k=64:=by omega
      have hE:=HRO.out
      rw [List.take_of_length_le (by rw [HG.out.fit.roots]; omega),List.drop_of_length_le (by rw [HG.out.fit.roots]; omega),List.append_nil] at hE
      have HRE:=Lib.hid (show Row wr gr 54 cr (u32s (colR h l)) from hE)
      clear hE HRO
      have HFr:=Lib.hid (below_top HF3.out HB.out)
      have HWD:=Lib.hid (words_any (HH.out wr HFr.out) HG.out.fit)
      unfold ptr at HWD
      have HL1:=Lib.hid (u32s_len h.words)
      gi_wp2_with fail
      refine⟨trivial,(callsIn_wide.2 HWD.out).mono ?_⟩
      rintro e w12 ⟨go,co,rfl,hrw,hgo,hb12⟩
      rw [HL1.out]
      have HB12:=Lib.hid (below_top HB.out hb12)
      have HRE2:=Lib.hid (HRE.out.below hb12)
      have HRW:=Lib.hid hrw
      have HRL:=Lib.hid (show W9.heap.size≤wr.heap.size∧wr.heap.size≤w12.heap.size from⟨HB.out.size,hb12.size⟩)
      clear hrw hb12 HB HRE HWD HFr
      have HV2:=Lib.hid (show (u32s (colR h l))[0]? = some (.int .u32 (voidM h l:Int)) by
       rw [u32s_get (by unfold colR; rw [List.length_map,HG.out.fit.roots]; omega)]
       unfold colR voidM
       rw [List.getD_eq_getElem?_getD,List.getElem?_map,List.getElem?_eq_getElem (by rw [HG.out.fit.roots]; omega),List.getD_eq_getElem?_getD,List.getElem?_eq_getElem (by rw [HG.out.fit.roots]; omega)]
       rfl)
      have HKZ:=Lib.hid (show (keepZ h l).length=(planM h l).length by rw [keepZ_len,HLV.out])
      have HM12:=Lib.hid (HM3.out.below HB12.out)
      have HF12:=Lib.hid (below_top HF3.out HB12.out)
      have HW9:=Lib.hid (show mg<W9.heap.size∧W9.heap.size≤w12.heap.size from⟨HM3.out.box.lt,HB12.out.size⟩)
      have HGR:=Lib.hid hgr
      have HGO:=Lib.hid (show W9.heap.size≤go from Nat.le_trans HRL.out.1 hgo)
      clear HRL
      clear hgr hgo
      gi_wp2_with fail
      gi_loopw [97] (fun iv wx=>∃ (k:Nat) (v:Value),iv = .int .i64 k∧k≤(planM h l).length∧MovAt wx mb mg mb (.pointer (some ⟨p.g,0,none⟩)) v ([0]++wsOf ((colL h l).take k)) (planM h l) (planM h l).length (l.length-(planM h l).length) 0 (mvd (planM h l)) (clrN (planM h l) ((keepZ h l).take k))∧MFr mg v0 v w12 wx) (fun iv _=>(planM h l).length-(intOf iv).toNat)
      case atStart=>exact⟨0,v0,rfl,by omega,by simpa [wsOf,clrN] using HM12.out,MFr.refl _ _ _⟩
      case round=>
       clear HM12
       obtain⟨k,v,rfl,hk,hm,hf⟩:=hrel
       have HM:=Lib.hid hm
       have HF:=Lib.hid hf
       clear hm hf
       by_cases hlt:k<(planM h l).length
       ·have hlz:k<(keepZ h l).length:=by rw [HKZ.out]; exact hlt
        obtain⟨rfl,hpa⟩:=HA3.out (by omega)
        have hq:=List.getElem?_eq_getElem hlt
        have hgpb:gp<W4.heap.size∧W3.heap.size≤gp:=⟨by have:=HGA.out; omega,HG3.out.1⟩
        have hW9W4:W4.heap.size≤W9.heap.size:=by have:=HG6.out; have:=HG9.out; have:=HG8.out; omega
        have hv0n:∀ q,W3.heap.size≤q→v0.ownBlock≠some q:=fun q hq e=>by have:=HV0.out q e; omega
        have hgpw:W9.heap.size≤w12.heap.size:=HW9.out.2
        have hsame12:w12.heap[gp]? = W9.heap[gp]? :=HB12.out.block gp (by omega)
        have hPw:=(hpa.same hgpw hsame12).same HF.out.size (HF.out.same gp (by omega) (by have:=HG3.out; omega) (hv0n gp (by omega)))
        obtain⟨hc0,hc1⟩:=hPw.2 k _ hq
        have hfst:((planM h l)[k]).1=((keepZ h l)[k]).1:=by
         have h1:=planM_fst h l
         rw [← keepZ_fst] at h1
         have h2:=congrArg (fun z=>z[k]?) h1
         simp only [List.getElem?_map,hq,List.getElem?_eq_getElem hlz,Option.map_some] at h2
         exact Option.some.inj h2
        obtain⟨j,hj,hp1,hp2,hp3⟩:=keepZ_mem (List.getElem_mem hlz)
        obtain⟨o,ho⟩ :∃ o,o=2*posOf (l.take j):=⟨_,rfl⟩
        have HO:=Lib.hid ho
        rw [hfst,hp1,← ho] at hc0
        clear ho
        have hmg3:mg<W3.heap.size:=HG3.out.2.2.1
        obtain⟨hrow,hne⟩:=HF.out.row HRW.out (by have:=HGO.out; omega) (hv0n go (by have:=HGO.out; have:=HG3.out; omega))
        have hrr:=HF.out.row HRE2.out (by have:=HGR.out; omega) (hv0n gr (by have:=HGR.out; have:=HG3.out; omega))
        have hBel:Below w.heap.size w wr:=by
         have h1:=HF.out.below (B:=w.heap.size) (by omega) (fun q e=>by have:=HV0.out q e; have:=HMG.out; omega) HF12.out.size
         exact HF12.out.trans h1
        have HBEL:=Lib.hid hBel
        have HROW:=Lib.hid hrow
        have HNE:=Lib.hid hne
        have HRR:=Lib.hid hrr.1
        have htk:(colL h l).take (k+1)=(colL h l).take k++[relob (planM h l) (voidM h l) (l[j])]:=by
         have hcl:(colL h l)[k]? = some (relob (planM h l) (voidM h l) (l[j])):=by
          unfold colL
          rw [List.getElem?_map,List.getElem?_eq_getElem hlz,Option.map_some,hp2]
         rw [List.take_add_one,hcl]
         rfl
        have hzk:(keepZ h l).take (k+1)=(keepZ h l).take k++[(keepZ h l)[k]]:=by rw [List.take_add_one,List.getElem?_eq_getElem hlz]; rfl
        have HWS:=Lib.hid (show [0]++wsOf ((colL h l).take (k+1))=([0]++wsOf ((colL h l).take k))++(relob (planM h l) (voidM h l) (l[j])).ws by
         rw [htk,wsOf_app,wsOf_cons,wsOf_nil,List.append_nil,List.append_assoc])
        have HCL:=Lib.hid (show clrN (planM h l) ((keepZ h l).take (k+1))=clrN (planM h l) ((keepZ h l).take k)+clearedB (planM h l) (l[j]) by
         rw [hzk,clr_snoc,hp2])
        have hwsl:([0]++wsOf ((colL h l).take k)).length≤1048576:=by
         have h1:=wsOf_sub (List.take_sublist k (colL h l))
         have h2:=col_room HG.out
         have h3:=HG.out.fit.room
         have h4:=HG.out.fit.hi
         simp only [List.length_append,List.length_cons,List.length_nil] at *
         omega
        have hcll:clrN (planM h l) ((keepZ h l).take k)≤1000000000000:=by
         have h1:=clr_le (planM h l) ((keepZ h l).take k)
         have h2:(wsOf (((keepZ h l).take k).map (·.2))).length≤(wsOf l).length:=wsOf_sub (((List.take_sublist k _).map _).trans (keepZ_snd h l))
         have h3:=HG.out.fit.room
         have h4:=HG.out.fit.hi
         have h5:=congrArg List.length HG.out.laid.words
         rw [List.length_cons] at h5
         omega
        have hvoid:=HRR.out.cell HV2.out
        have HJ:=Lib.hid hj
        generalize ((planM h l)[k]).2=y at hc1
        clear hpa hq hgpb hW9W4 hv0n hgpw hsame12 hPw hfst hp1 hp2 hp3 htk hzk hlz hmg3 hrow hne hrr hBel
        gi_upto_region 26 with fail
        have hb5:Below wr.heap.size wr (wr.alloc (.cells #[.int .u32 (o:Int),.int .u32 (y:Int)] 176)):=(Below.refl _ _).alloc (Nat.le_refl _) _
        have HM5:=Lib.hid (HM.out.below hb5)
        have HX5:=Lib.hid (Blk.new wr 176 #[.int .u32 (o:Int),.int .u32 (y:Int)])
        have HF5:=Lib.hid (HF.out.trans (MFr.of_below (mg:=mg) (v:=v) hb5))
        have HR5:=Lib.hid (HROW.out.below hb5)
        have HQ5:=Lib.hid (HRR.out.below hb5)
        have HB5:=Lib.hid (below_top HBEL.out hb5)
        clear hb5 HM HF HROW HRR HBEL hc0 hc1 hvoid
        generalize wr.alloc (.cells #[.int .u32 (o:Int),.int .u32 (y:Int)] 176)=W5 at *
        generalize wr.heap.size=b6 at *
        refine wpIn_region_W 7 (fun w'=>w'.cell? ⟨b6,0,none⟩=some (.int .u32 (o:Int))∧w'.cell? ⟨gr,0,none⟩=some (.int .u32 (voidM h l:Int))) (by kernel_rfl) (by kernel_rfl) ?_
        have hbd:Below W5.heap.size W5 W5.drew:=⟨rfl,rfl,rfl,Nat.le_refl _,fun _ _=>rfl⟩
        have HMq:=Lib.hid HM5.out.drew
        have HFq:=Lib.hid (HF5.out.trans (MFr.of_below (mg:=mg) (v:=v) hbd))
        have HRq:=Lib.hid (HR5.out.below hbd)
        have HBq:=Lib.hid (below_top HB5.out hbd)
        have hS:W5.drew.cell? ⟨b6,0,none⟩=some (.int .u32 (o:Int))∧W5.drew.cell? ⟨gr,0,none⟩=some (.int .u32 (voidM h l:Int)):=⟨HX5.out.cell 0,HQ5.out.cell HV2.out⟩
        clear hbd HM5 HX5 HF5 HR5 HQ5 HB5
        generalize W5.drew=Wq at *
        have hBm:mb≤Wq.heap.size:=Nat.le_of_lt HMq.out.map.lt
        have HLAY:=Lib.hid (lay_any (void:=voidM h l) HMq.out (HH.out Wq HBq.out) HG.out (HS.out Wq HBq.out) HJ.out HRq.out HNE.out hBm (fun x hx=>where_lt HG.out hx) (void_lt HG.out) hwsl hcll)
        unfold LayQ at HLAY
        rw [← HWS.out,← HCL.out,← HO.out] at HLAY
        generalize voidM h l=void at *
        refine U_read 0 (v:=(.pointer (some ⟨mg,0,none⟩))) rfl (by kernel_rfl) (fun _ _ _ h=>h) hS (by rfl) (fun w' hw'=>by obtain⟨h0,h1⟩:=hw'; go_simp) ?_
        try simp only [Act.put,List.setIfInBounds_toArray,List.set_cons_zero,List.set_cons_succ]
        refine U_readC 1 [2,7] (v:=(.pointer (some ⟨b6,0,none⟩))) rfl (by kernel_rfl) (fun _ _ _ h=>h) hS (by rfl) (fun w' hw'=>by obtain⟨h0,h1⟩:=hw'; go_simp) ?_
        try simp only [Act.put,List.setIfInBounds_toArray,List.set_cons_zero,List.set_cons_succ]
        refine U_read 2 (v:=(.int .u32 (o:Int))) rfl (by kernel_rfl) (fun _ _ _ h=>h) hS (by rfl) (fun w' hw'=>by obtain⟨h0,h1⟩:=hw'; go_simp) ?_
        try simp only [Act.put,List.setIfInBounds_toArray,List.set_cons_zero,List.set_cons_succ]
        refine U_read 3 (v:=(.slice (some ⟨go,0,none⟩) h.words.length co)) rfl (by kernel_rfl) (fun _ _ _ h=>h) hS (by rfl) (fun w' hw'=>by obtain⟨h0,h1⟩:=hw'; go_simp) ?_
        try simp only [Act.put,List.setIfInBounds_toArray,List.set_cons_zero,List.set_cons_succ]
        refine U_readC 4 [5,6,7] (v:=(.slice (some ⟨gr,0,none⟩) 64 cr)) rfl (by kernel_rfl) (fun _ _ _ h=>h) hS (by rfl) (fun w' hw'=>by obtain⟨h0,h1⟩:=hw'; go_simp) ?_
        try simp only [Act.put,List.setIfInBounds_toArray,List.set_cons_zero,List.set_cons_succ]
        refine U_readC 5 [6,7] (v:=(.pointer (some ⟨gr,0,none⟩))) rfl (by kernel_rfl) (fun _ _ _ h=>h) hS (by rfl) (fun w' hw'=>by obtain⟨h0,h1⟩:=hw'; go_simp) ?_
        try simp only [Act.put,List.setIfInBounds_toArray,List.set_cons_zero,List.set_cons_succ]
        refine U_read 6 (v:=(.int .u32 (void:Int))) rfl (by kernel_rfl) (fun _ _ _ h=>h) hS (by rfl) (fun w' hw'=>by obtain⟨h0,h1⟩:=hw'; go_simp) ?_
        try simp only [Act.put,List.setIfInBounds_toArray,List.set_cons_zero,List.set_cons_succ]
        refine U_one 7 (by kernel_rfl) rfl rfl (fun K hK=>?_)
        go_simp
        refine HLAY.out.mono ?_
        rintro e W8 ⟨rfl,v',hm8,hf8⟩
        have HM8:=Lib.hid hm8
        have HF8:=Lib.hid (HFq.out.trans hf8)
        clear hm8 hf8 HLAY HMq HFq HRq HBq hS
        refine hK _ _ (fun h=>absurd h (by decide)) ?_
        clear hK K
        try simp only [Act.put,List.setIfInBounds_toArray,List.set_cons_zero,List.set_cons_succ]
        refine U_done (by kernel_rfl) ?_ _
        simp only [Calm,Exit.then]
        gi_wp2_with fail
        go_roundw
        case rel=>exact⟨k+1,v',by go_num,by omega,HM8.out,HF8.out⟩
        case measure=>simp [intOf]; omega
       ·obtain rfl:k=(planM h l).length:=by omega
        have hE:=HM.out
        rw [List.take_of_length_le (by rw [colL_len,HKZ.out]; exact Nat.le_refl _),List.take_of_length_le (by rw [HKZ.out]; exact Nat.le_refl _)] at hE
        obtain⟨gv,cv,hvv,hrv,-,hgv⟩:=Row.of_any hE.own (by simp)
        have hBel:Below w.heap.size w wr:=by
         have h1:=HF.out.below (B:=w.heap.size) (by have:=HMG.out; have:=hE.hg; omega) (fun q e=>by have:=HV0.out q e; have:=HMG.out; omega) HF12.out.size
         exact HF12.out.trans h1
        have hv0n:∀ q,W3.heap.size≤q→v0.ownBlock≠some q:=fun q hq e=>by have:=HV0.out q e; omega
        have hmg3:mg<W3.heap.size:=HG3.out.2.2.1
        have h39:W3.heap.size≤W9.heap.size:=by have:=HG6.out; have:=HG9.out; have:=HG8.out; have:=HG3.out; omega
        have hrr:=(HF.out.row HRE2.out (by have:=HGR.out; omega) (hv0n gr (by have:=HGR.out; omega))).1
        have hD0:W0.heap.size≤D:=hD
        have hW30:W3.heap.size≤W0.heap.size:=by have:=HG6.out; have:=HG8.out; have:=HG3.out; omega
        have hK12:=(HB12.out.block D (lt_of_get HK3.out)).trans HK3.out
        have hKr:wr.heap[D]? = some (.deferred (some [])):=(HF.out.same D (lt_of_get hK12) (by omega) (hv0n D (by omega))).trans hK12
        have hzr:Blk wr w.heap.size 62 #[.int .i64 0,.int .i64 0,.int .i64 0,.int .i64 0,.int .i64 0]:=
         (HZ3.out.same (HB12.out.block _ HZ3.out.lt)).same (HF.out.same _ (Nat.lt_of_lt_of_le HZ3.out.lt HW9.out.2) (by have:=hE.hg; have:=HMG.out; omega) (fun e=>by have:=HV0.out _ e; have:=HMG.out; omega))
        have HME:=Lib.hid hE
        have HRV:=Lib.hid hrv
        have HBL:=Lib.hid hBel
        have HRR:=Lib.hid hrr
        have HKR:=Lib.hid hKr
        have HZR:=Lib.hid hzr
        have HCR:=Lib.hid (col_room HG.out)
        have HFIT:=Lib.hid (show h.words.length≤1048576 by have h1:=HG.out.fit.room; have h2:=HG.out.fit.hi; omega)
        have HWS:=Lib.hid (show [0]++wsOf (colL h l)=0 :: wsOf (colL h l) from rfl)
        subst hvv
        clear hE hrv hBel hv0n hmg3 h39 hrr hD0 hW30 hK12 hKr hzr HM HF
        rw [HWS.out] at HME HRV
        have hlw:(0 :: wsOf (colL h l)).length=1+(wsOf (colL h l)).length:=by rw [List.length_cons]; omega
        have hcw:=HCR.out
        have hfw:=HFIT.out
        have HLD:=Lib.hid (show ∀ Wq:World,Below w.heap.size w Wq→Row Wq gv 32 cv (u32s (0 :: wsOf (colL h l)))→Row Wq gr 54 cr (u32s (colR h l))→
         Calls Tryz.prog 94 #[ptr p.g,.slice (some ⟨gv,0,none⟩) (0 :: wsOf (colL h l)).length cv,.slice (some ⟨gr,0,none⟩) 64 cr,.int .u32 (h.last:Nat)] Wq (Made p (colH h l) (.int .i64 0) Wq) from fun Wq hb r1 r2=>by
         have hR:(colR h l).length=64:=by unfold colR; rw [List.length_map]; exact HG.out.fit.roots
         have hn1:=r1.reads (B:=Wq.heap.size) r1.lt
         have hn2:=r2.reads (B:=Wq.heap.size) r2.lt
         rw [u32s_len] at hn1 hn2
         rw [hR] at hn2
         have hro:=HG.out.fit.room
         have h0:=loadE_ok (size:=h.size) (ws:=0 :: wsOf (colL h l)) (rs:=colR h l) (last:=h.last) (by rw [hR]; simp only [List.length_cons] at *; omega) (col_loadOk HG.out)
         have h1:=Load_any (HH.out Wq hb) HG.out.fit (HS.out Wq hb) (fun k hk=>HSP.out k (Nat.le_trans hb.size hk)) _ _ cv _ (by omega) hn1 (col_w32 HG.out) _ _ cr _ (by omega) hn2 (col_r32 HG.out) h.last HG.out.fit.l32
         rw [h0,show h.loadH (0 :: wsOf (colL h l)) (colR h l) h.last=colH h l by unfold HM.loadH; rw [if_pos h0]; rfl] at h1
         exact h1)
        unfold ptr at HLD
        have HLS:=Lib.hid (fun (Wq:World) (hb:Below w.heap.size w Wq)=>last_any (HH.out Wq hb) HG.out.fit)
        unfold ptr at HLS
        have HCOL:=Lib.hid (show ∀ LW,LW=(0 :: wsOf (colL h l)).length→colV h l = .agg #[.int .i64 ((planM h l).length:Nat),.int .i64 ((l.length-(planM h l).length:Nat):Nat),.int .i64 ((h.words.length-LW:Nat):Nat),.int .i64 (mvd (planM h l):Nat),.int .i64 (clrN (planM h l) (keepZ h l):Nat)] from fun LW e=>by
         unfold colV
         rw [HLV.out,e,hlw]
         rfl)
        have HCOL:=Lib.hid (HCOL.out _ rfl)
        clear hlw HWS
        generalize (0 :: wsOf (colL h l)).length=LW at *
        have hws:IntKind.i64.wrap ((h.words.length:Int)-(LW:Int))=(h.words.length:Int)-(LW:Int):=IntWalk.i64_in _ (by omega)
        have hcv:((h.words.length-LW:Nat):Int)=(h.words.length:Int)-(LW:Int):=by omega
        have HCV2:=Lib.hid hcv
        have hm2:=HME.out.box.cell 2
        have hm5:=HME.out.box.cell 5
        have hz5:=HME.out.box.frozen 5
        clear hcv hcw hfw
        gi_upto_region 29 with fail
        have hmgne:∀ q,q≠mg→(wr.setCell ⟨mg,5,none⟩ (.int .i64 ((h.words.length:Int)-(LW:Int)))).heap[q]? = wr.heap[q]? :=fun q hq=>Below.heap_setCell wr ⟨mg,5,none⟩ _ q hq
        have hbx:=HME.out.box.set_ 5 (.int .i64 ((h.words.length:Int)-(LW:Int)))
        have hgvm:gv≠mg:=fun e=>own_ne_blk HME.out.own HME.out.box (by decide) (by rw [← e]; rfl)
        have hgrm:gr≠mg:=by have:=HGR.out; have:=HW9.out; omega
        have hwmg':w.heap.size<mg:=by have:=HME.out.hg; have:=HMG.out; omega
        have HBX:=Lib.hid hbx
        have HRV1:=Lib.hid (HRV.out.same (hmgne gv hgvm))
        have HRR1:=Lib.hid (HRR.out.same (hmgne gr hgrm))
        have HKR1:=Lib.hid ((hmgne D (by have:=HG6.out; have:=HG8.out; omega)).trans HKR.out)
        have HZR1:=Lib.hid (HZR.out.same (hmgne _ (by omega)))
        have HBL1:=Lib.hid (HBL.out.setCell (p:=⟨mg,5,none⟩) (Nat.le_of_lt hwmg') (.int .i64 ((h.words.length:Int)-(LW:Int))))
        clear hbx hmgne hgvm hgrm hm2 hm5 hz5 hws HME HRV HRR HKR HZR HBL
        generalize wr.setCell ⟨mg,5,none⟩ (.int .i64 ((h.words.length:Int)-(LW:Int)))=W28 at *
        refine wpIn_region_W 8 (fun w'=>w'.cell? ⟨mg,2,none⟩=some (.slice (some ⟨gv,0,none⟩) LW cv)∧True) (by kernel_rfl) (by kernel_rfl) ?_
        have hbd:Below W28.heap.size W28 W28.drew:=⟨rfl,rfl,rfl,Nat.le_refl _,fun _ _=>rfl⟩
        have HBXq:=Lib.hid (HBX.out.below hbd HBX.out.lt)
        have HRVq:=Lib.hid (HRV1.out.below hbd)
        have HRRq:=Lib.hid (HRR1.out.below hbd)
        have HKRq:=Lib.hid (show W28.drew.heap[D]? = some (.deferred (some [])) from HKR1.out)
        have HZRq:=Lib.hid (HZR1.out.below hbd HZR1.out.lt)
        have HBLq:=Lib.hid (below_top HBL1.out hbd)
        clear hbd HBX HRV1 HRR1 HKR1 HZR1 HBL1
        generalize W28.drew=Wq at *
        have hS:Wq.cell? ⟨mg,2,none⟩=some (.slice (some ⟨gv,0,none⟩) LW cv)∧True:=⟨HBXq.out.cell 2,trivial⟩
        have HLDq:=Lib.hid (HLD.out Wq HBLq.out HRVq.out HRRq.out)
        have HLSq:=Lib.hid (HLS.out Wq HBLq.out)
        refine U_read 0 (v:=(.pointer (some ⟨p.g,0,none⟩))) rfl (by kernel_rfl) (fun _ _ _ h=>h) hS (by rfl) (fun w' hw'=>by obtain⟨h0,_⟩:=hw'; go_simp) ?_
        try simp only [Act.put,List.setIfInBounds_toArray,List.set_cons_zero,List.set_cons_succ]
        refine U_readC 1 [2,3,4,8] (v:=(.pointer (some ⟨mg,0,none⟩))) rfl (by kernel_rfl) (fun _ _ _ h=>h) hS (by rfl) (fun w' hw'=>by obtain⟨h0,_⟩:=hw'; go_simp) ?_
        try simp only [Act.put,List.setIfInBounds_toArray,List.set_cons_zero,List.set_cons_succ]
        refine U_readC 2 [3,4,8] (v:=(.pointer (some ⟨mg,0,none⟩))) rfl (by kernel_rfl) (fun _ _ _ h=>h) hS (by rfl) (fun w' hw'=>by obtain⟨h0,_⟩:=hw'; go_simp) ?_
        try simp only [Act.put,List.setIfInBounds_toArray,List.set_cons_zero,List.set_cons_succ]
        refine U_readC 3 [4,8] (v:=(.pointer (some ⟨mg,2,none⟩))) rfl (by kernel_rfl) (fun _ _ _ h=>h) hS (by rfl) (fun w' hw'=>by obtain⟨h0,_⟩:=hw'; go_simp) ?_
        try simp only [Act.put,List.setIfInBounds_toArray,List.set_cons_zero,List.set_cons_succ]
        refine U_read 4 (v:=(.slice (some ⟨gv,0,none⟩) LW cv)) rfl (by kernel_rfl) (fun _ _ _ h=>h) hS (by rfl) (fun w' hw'=>by obtain⟨h0,_⟩:=hw'; go_simp) ?_
        try simp only [Act.put,List.setIfInBounds_toArray,List.set_cons_zero,List.set_cons_succ]
        refine U_read 5 (v:=(.slice (some ⟨gr,0,none⟩) 64 cr)) rfl (by kernel_rfl) (fun _ _ _ h=>h) hS (by rfl) (fun w' hw'=>by obtain⟨h0,_⟩:=hw'; go_simp) ?_
        try simp only [Act.put,List.setIfInBounds_toArray,List.set_cons_zero,List.set_cons_succ]
        refine U_readC 6 [7,8] (v:=(.pointer (some ⟨p.g,0,none⟩))) rfl (by kernel_rfl) (fun _ _ _ h=>h) hS (by rfl) (fun w' hw'=>by obtain⟨h0,_⟩:=hw'; go_simp) ?_
        try simp only [Act.put,List.setIfInBounds_toArray,List.set_cons_zero,List.set_cons_succ]
        refine U_one 7 (by kernel_rfl) rfl rfl (fun K hK=>?_)
        go_simp
        refine HLSq.out.mono ?_
        rintro e w7 ⟨rfl,rfl⟩
        refine hK _ _ (fun _=>hS) ?_
        clear hK K
        try simp only [Act.put,List.setIfInBounds_toArray,List.set_cons_zero,List.set_cons_succ]
        refine U_one 8 (by kernel_rfl) rfl rfl (fun K hK=>?_)
        go_simp
        refine HLDq.out.mono ?_
        rintro e W30 ⟨p',rfl,hH30,hst⟩
        have HH30:=Lib.hid hH30
        have HST:=Lib.hid hst
        have HPM:=Lib.hid (show ∀ j,p.has j→j<w.heap.size from HPW.out)
        have HBX3:=Lib.hid (HBXq.out.same (hst.block mg HBXq.out.lt (fun e=>by have:=HPW.out mg e; omega)))
        have HZR3:=Lib.hid (HZRq.out.same (hst.block _ HZRq.out.lt (fun e=>by have:=HPW.out _ e; omega)))
        have HKR3:=Lib.hid ((hst.block D (lt_of_get HKRq.out) (fun e=>by have:=HPW.out D e; have:=HG6.out; have:=HG8.out; omega)).trans HKRq.out)
        clear hH30 hst HLDq HLSq hS HLD HLS
        refine hK _ _ (fun h=>absurd h (by decide)) ?_
        clear hK K
        try simp only [Act.put,List.setIfInBounds_toArray,List.set_cons_zero,List.set_cons_succ]
        refine U_done (by kernel_rfl) ?_ _
        simp only [Calm,Exit.then]
        generalize hT1:((l.length-(planM h l).length:Nat):Int)=T1 at *
        generalize hT2:(clrN (planM h l) (keepZ h l):Int)=T2 at *
        generalize hT3:(mvd (planM h l):Int)=T3 at *
        have e3:W30.cell? ⟨mg,3,none⟩=some (.int .i64 ((planM h l).length:Int)):=(HBX3.out.cell 3).trans (by simp)
        have e4:W30.cell? ⟨mg,4,none⟩=some (.int .i64 T1):=(HBX3.out.cell 4).trans (by simp)
        have e5:W30.cell? ⟨mg,5,none⟩=some (.int .i64 ((h.words.length:Int)-(LW:Int))):=(HBX3.out.cell 5).trans (by simp)
        have e6:W30.cell? ⟨mg,6,none⟩=some (.int .i64 T3):=(HBX3.out.cell 6).trans (by simp)
        have e7:W30.cell? ⟨mg,7,none⟩=some (.int .i64 T2):=(HBX3.out.cell 7).trans (by simp)
        have z0:=HZR3.out.frozen 0
        have z1:=HZR3.out.frozen 1
        have z2:=HZR3.out.frozen 2
        have z3:=HZR3.out.frozen 3
        have z4:=HZR3.out.frozen 4
        have d0:=HZR3.out.cell 0
        have d1:=HZR3.out.cell 1
        have d2:=HZR3.out.cell 2
        have d3:=HZR3.out.cell 3
        have d4:=HZR3.out.cell 4
        have HZ5:=Lib.hid (HZR3.out.setAll5 (.int .i64 ((planM h l).length:Int)) (.int .i64 T1) (.int .i64 ((h.words.length:Int)-(LW:Int))) (.int .i64 T3) (.int .i64 T2))
        have HFAR:=Lib.hid (show ∀ k,k≠w.heap.size→(((((W30.setCell ⟨w.heap.size,0,none⟩ (.int .i64 ((planM h l).length:Int))).setCell ⟨w.heap.size,1,none⟩ (.int .i64 T1)).setCell ⟨w.heap.size,2,none⟩ (.int .i64 ((h.words.length:Int)-(LW:Int)))).setCell ⟨w.heap.size,3,none⟩ (.int .i64 T3)).setCell ⟨w.heap.size,4,none⟩ (.int .i64 T2)).heap[k]? = W30.heap[k]? from fun k h=>by
         rw [Below.heap_setCell _ ⟨w.heap.size,4,none⟩ _ k h,Below.heap_setCell _ ⟨w.heap.size,3,none⟩ _ k h,Below.heap_setCell _ ⟨w.heap.size,2,none⟩ _ k h,Below.heap_setCell _ ⟨w.heap.size,1,none⟩ _ k h,Below.heap_setCell _ ⟨w.heap.size,0,none⟩ _ k h])
        have HOS:=Lib.hid (show (((((W30.setCell ⟨w.heap.size,0,none⟩ (.int .i64 ((planM h l).length:Int))).setCell ⟨w.heap.size,1,none⟩ (.int .i64 T1)).setCell ⟨w.heap.size,2,none⟩ (.int .i64 ((h.words.length:Int)-(LW:Int)))).setCell ⟨w.heap.size,3,none⟩ (.int .i64 T3)).setCell ⟨w.heap.size,4,none⟩ (.int .i64 T2)).os=W30.os∧(((((W30.setCell ⟨w.heap.size,0,none⟩ (.int .i64 ((planM h l).length:Int))).setCell ⟨w.heap.size,1,none⟩ (.int .i64 T1)).setCell ⟨w.heap.size,2,none⟩ (.int .i64 ((h.words.length:Int)-(LW:Int)))).setCell ⟨w.heap.size,3,none⟩ (.int .i64 T3)).setCell ⟨w.heap.size,4,none⟩ (.int .i64 T2)).tape=W30.tape∧(((((W30.setCell ⟨w.heap.size,0,none⟩ (.int .i64 ((planM h l).length:Int))).setCell ⟨w.heap.size,1,none⟩ (.int .i64 T1)).setCell ⟨w.heap.size,2,none⟩ (.int .i64 ((h.words.length:Int)-(LW:Int)))).setCell ⟨w.heap.size,3,none⟩ (.int .i64 T3)).setCell ⟨w.heap.size,4,none⟩ (.int .i64 T2)).output=W30.output∧(((((W30.setCell ⟨w.heap.size,0,none⟩ (.int .i64 ((planM h l).length:Int))).setCell ⟨w.heap.size,1,none⟩ (.int .i64 T1)).setCell ⟨w.heap.size,2,none⟩ (.int .i64 ((h.words.length:Int)-(LW:Int)))).setCell ⟨w.heap.size,3,none⟩ (.int .i64 T3)).setCell ⟨w.heap.size,4,none⟩ (.int .i64 T2)).heap.size=W30.heap.size from⟨rfl,rfl,rfl,by simp [World.setCell]⟩)
        gi_wp2_with fail
        generalize (((((W30.setCell ⟨w.heap.size,0,none⟩ (.int .i64 ((planM h l).length:Int))).setCell ⟨w.heap.size,1,none⟩ (.int .i64 T1)).setCell ⟨w.heap.size,2,none⟩ (.int .i64 ((h.words.length:Int)-(LW:Int)))).setCell ⟨w.heap.size,3,none⟩ (.int .i64 T3)).setCell ⟨w.heap.size,4,none⟩ (.int .i64 T2))=WF at *
        clear e3 e4 e5 e6 e7 z0 z1 z2 z3 z4 d0 d1 d2 d3 d4
        have hDw:w.heap.size<D:=by have:=HG6.out; have:=HG8.out; have:=HMG.out; omega
        have hKD:WF.heap[D]? = some (.deferred (some [])):=(HFAR.out D (by omega)).trans HKR3.out
        refine⟨by simp,.inl ⟨_,_,rfl,run_takeDeferred hKD,?_⟩⟩
        have hg:=grownBy_putObj' WF D (.deferred none)
        have HP:=blk_ownW (B:=W0.heap.size) HZ5.out hg (fun r e=>by cases e; exact⟨hD,_,hKD,rfl⟩)
        have f0:=HP.cell 0
        have f1:=HP.cell 1
        have f2:=HP.cell 2
        have f3:=HP.cell 3
        have f4:=HP.cell 4
        refine⟨.agg #[.int .i64 ((planM h l).length:Int),.int .i64 T1,.int .i64 ((h.words.length:Int)-(LW:Int)),.int .i64 T3,.int .i64 T2],by simp [results,Tryz.results28,go_sem,f0,f1,f2,f3,f4],?_⟩
        have hDq:D<Wq.heap.size:=lt_of_get HKRq.out
        have hwq:w.heap.size≤Wq.heap.size:=HBLq.out.size
        have hall:∀ k,k≠w.heap.size→k≠D→(WF.putObj D (.deferred none)).heap[k]? = W30.heap[k]? :=fun k h1 h2=>by
         by_cases hk:k<WF.heap.size
         ·exact (hg.block k hk (fun e=>h2 (by first | exact Option.some.inj e | exact (Option.some.inj e).symm))).trans (HFAR.out k h1)
         ·have hs:(WF.putObj D (.deferred none)).heap.size=WF.heap.size:=by simp [World.putObj]
          rw [Array.getElem?_eq_none (by omega),Array.getElem?_eq_none (by have:=HOS.out.2.2.2; omega)]
        have hnp:∀ k,p'.has k→k≠w.heap.size∧k≠D:=fun k hk=>by
         rcases HST.out.rows k hk with h1 | h1
         ·have:=HPM.out k h1; omega
         ·have h2:=HZRq.out.lt; omega
        refine⟨p',by rw [HCOL.out,HCV2.out],HH30.out.same (fun k hk=>hall k (hnp k hk).1 (hnp k hk).2),?_⟩
        exact⟨hg.os.trans (HOS.out.1.trans (HST.out.os.trans HBLq.out.os)),hg.tape.trans (HOS.out.2.1.trans (HST.out.tape.trans HBLq.out.tape)),hg.output.trans (HOS.out.2.2.1.trans (HST.out.output.trans HBLq.out.output)),
         by have h1:=hg.size; have h2:=HOS.out.2.2.2; have h3:=HST.out.size; omega,
         fun k hk hn=>(hall k (by omega) (by omega)).trans ((HST.out.block k (by omega) hn).trans (HBLq.out.block k hk)),HST.out.g,
         fun k hk=>(HST.out.rows k hk).imp id (fun h1=>by omega)⟩
   case stop=>
    rintro D c pre W hD hp hx hK
    exact hx.elim
end
section
open Go.RowKit
end
section
open Go.RowKit
def StV (A:Option Addr) (n c:Nat) (A':Option Addr) (n' c':Nat):Value:=.agg #[.slice A n c,.slice A' n' c']
end
section
open Go.RowKit
end
section
open Go.RowKit
theorem Live.collect {W w:World} {p:HP} {g:Nat} {h:HM} {l:List Ob} (L:Live W w p g h) (G:h.Good l):Calls Tryz.prog 28 #[.pointer (some ⟨g,0,none⟩)] w (Done W p g (colH h l) (colV h l) w):=by
 have hh:=collect_any L.at_ G L.envw.spares (fun k hk=>by
  have h1:=L.envw.spares.lt
  have h2:=L.envw.pow.lt
  exact⟨by omega,by omega⟩)
 rw [L.hg] at hh
 exact hh.mono fun _ _ H=>L.of_made ⟨_,col_good G⟩ H
theorem own_readsK {w:World} {base n:Nat} {e:TypeId} {v:Value} {xs:List Value} (h:w.ownsRow base e 1 v n xs) (h0:0<n):∃ A c,v = .slice A n c∧Reads w w.heap.size 1 A n xs:=by
 obtain⟨g,c,hv,hr,hl,_⟩:=Row.of_any h h0
 have:=hr.reads (B:=w.heap.size) hr.lt
 rw [hl] at this
 exact⟨_,c,hv,this⟩
end
section
open Go.RowKit
attribute [local go_sem] Oper.semAt_some
def idxL (l:List Ob):List Nat:=(List.range l.length).map fun k=>posOf (l.take k)
section
variable {w:World} {h:HM} {l:List Ob} {A A':Option Addr} {n c n' c':Nat}
theorem w0_parts (G:h.Good l) {k:Nat} (hk:k<l.length):h.words.getD (posOf (l.take k)) 0=(l[k]).x.w0∧(l[k]).x.w0%16777216=(l[k]).fs.length∧(l[k]).x.w0 / 16777216%8=(l[k]).x.fmt∧posOf (l.take k)+3+(l[k]).fs.length≤h.words.length:=by
 have L:=G.laid
 rw [split_at l k hk] at L
 have h0:=L.w_at 0 (by omega)
 rw [Nat.add_zero,ws_0] at h0
 have K:=L.ok_at
 have hu:=unhd_ob K
 unfold unhd at hu
 have h1:=congrArg Hd.size hu
 have h2:=congrArg Hd.fmt hu
 exact⟨h0,h1.trans K.size,h2,by have:=L.words_len; omega⟩
theorem rsize_any (G:h.Good l) (hr:Reads w w.heap.size 1 A n (u32s h.words)) {k:Nat} (hk:k<l.length):
 Calls Tryz.prog 241 #[StV A n c A' n' c',.int .i64 (posOf (l.take k):Nat)] w (Told (.int .i64 ((l[k]).fs.length:Nat)) w):=by
 obtain⟨h0,h1,_,h3⟩:=w0_parts G hk
 have hln:n=h.words.length:=by have:=hr.1; rw [u32s_len] at this; omega
 subst hln
 have hlt:posOf (l.take k)<h.words.length:=by omega
 have hBX:=(Below.refl w.heap.size w).alloc (Nat.le_refl _) (.cells #[.slice A h.words.length c,.slice A' n' c'] 280)
 obtain⟨ad,u,rfl,hbl,hu,hc⟩:=(hr.below hBX).at_ hlt
 rw [u32s_get (by omega),h0] at hu
 injection hu with hu
 subst hu
 have hm:(((l[k]).x.w0:Int)).tmod 16777216=((l[k]).fs.length:Int):=by rw [← h1]; exact (Int.ofNat_tmod _ _).symm
 have hfl:(l[k]).fs.length<16777216:=by omega
 have HB:=Lib.hid hBX
 have hw64:wrap64 (((l[k]).fs.length:Nat):Int)=((l[k]).fs.length:Int):=by first | exact IntWalk.i64_in _ (by omega) | (unfold wrap64; omega)
 clear h0 h1 h3 hr G hBX hfl
 unfold StV
 generalize posOf (l.take k)=at_ at *
 generalize (l[k]).x.w0=w0 at *
 generalize (l[k]).fs.length=fl at *
 go_enter Tryz.func241,Tryz.ntmps241
 go_wp2_with fail
 go_ret
 exact⟨by simp only [hw64]; rfl,HB.out⟩
end
end
section
open Go.RowKit
def fldL (p n:Nat):List Nat:=(p+1) :: (List.range n).map (fun i=>p+3+i)
def nmsK (p:Nat) (b:Ob):List Nat:=fldL p (if b.x.ptrB=true then b.fs.length else 0)
def holdN (p:Nat) (b:Ob):Nat:=if b.x.fmt=4 then 1 else (nmsK p b).length
theorem fldL_len (p n:Nat):(fldL p n).length=n+1:=by simp [fldL]
theorem fldL_zero (p:Nat):fldL p 0=[p+1]:=rfl
theorem fldL_snoc (p n:Nat):fldL p (n+1)=fldL p n++[p+3+n]:=by
 unfold fldL
 rw [List.range_succ,List.map_append]
 rfl
theorem nmsK_no {p:Nat} {b:Ob} (h1:b.x.fmt≠1) (h4:b.x.fmt≠4):nmsK p b=[p+1]:=by
 unfold nmsK Hd.ptrB
 rw [if_neg (by simp [h1,h4])]
 rfl
theorem nmsK_yes {p:Nat} {b:Ob} (h:b.x.fmt=1∨b.x.fmt=4):nmsK p b=fldL p b.fs.length:=by
 unfold nmsK Hd.ptrB
 rw [if_pos (by simpa using h)]
theorem nmsK_len (p:Nat) (b:Ob):(nmsK p b).length≤b.fs.length+1:=by
 unfold nmsK
 rw [fldL_len]
 split <;> omega
theorem nmsK_pos (p:Nat) (b:Ob):0<(nmsK p b).length:=by
 unfold nmsK
 rw [fldL_len]
 omega
theorem holdN_le (p:Nat) (b:Ob):holdN p b≤(nmsK p b).length:=by
 unfold holdN
 have:=nmsK_pos p b
 split <;> omega
theorem nmsK_get {p:Nat} {b:Ob} {j x:Nat} (h:(nmsK p b)[j]? = some x):p<x∧x<p+3+b.fs.length∧x=(if j=0 then p+1 else p+2+j):=by
 unfold nmsK fldL at h
 cases j with
 | zero=>simp at h; subst h; simp; omega
 | succ j=>
   rw [List.getElem?_cons_succ,List.getElem?_map] at h
   cases hr:(List.range (if b.x.ptrB=true then b.fs.length else 0))[j]? with
   | none=>rw [hr] at h; cases h
   | some y=>
     rw [hr] at h
     have hj:=List.getElem?_eq_some_iff.1 hr
     obtain⟨hj1,hj2⟩:=hj
     rw [List.length_range] at hj1
     rw [List.getElem_range] at hj2
     subst hj2
     simp at h
     subst h
     refine⟨by omega,?_,by simp; omega⟩
     split at hj1 <;> omega
section
variable {h:HM} {l:List Ob}
theorem range_map_getD (xs:List Nat):(List.range xs.length).map (fun i=>xs.getD i 0)=xs:=by
 apply List.ext_getElem
 ·simp
 ·intro i h1 h2
  simp [List.getD_eq_getElem?_getD,List.getElem?_eq_getElem h2]
theorem fld_words (G:h.Good l) {k:Nat} (hk:k<l.length) {i:Nat} (hi:i<(l[k]).fs.length):h.words.getD (posOf (l.take k)+3+i) 0=(l[k]).fs.getD i 0:=by
 have L:=G.laid
 rw [split_at l k hk] at L
 have h0:=L.w_at (i+3) (by omega)
 rw [ws_f,show posOf (l.take k)+(i+3)=posOf (l.take k)+3+i by omega] at h0
 exact h0
theorem cls_words (G:h.Good l) {k:Nat} (hk:k<l.length):h.words.getD (posOf (l.take k)+1) 0=(l[k]).x.cls:=by
 have L:=G.laid
 rw [split_at l k hk] at L
 have h0:=L.w_at 1 (by omega)
 rw [ws_1] at h0
 exact h0
theorem fldL_words (G:h.Good l) {k:Nat} (hk:k<l.length):(fldL (posOf (l.take k)) (l[k]).fs.length).map (fun i=>h.words.getD i 0)=(l[k]).x.cls :: (l[k]).fs:=by
 unfold fldL
 rw [List.map_cons,cls_words G hk,List.map_map]
 refine congrArg _ ?_
 conv=>rhs; rw [← range_map_getD (l[k]).fs]
 apply List.map_congr_left
 intro i hi
 exact fld_words G hk (List.mem_range.1 hi)
theorem num_names (G:h.Good l) {k:Nat} (hk:k<l.length):(nmsK (posOf (l.take k)) l[k]).map (fun i=>h.words.getD i 0)=namesM h (2*posOf (l.take k)):=by
 have L:=G.laid
 rw [split_at l k hk] at L
 unfold namesM
 rw [half_pos,L.hd_at,L.fields_at]
 unfold nmsK
 split
 ·exact fldL_words G hk
 ·rw [fldL_zero,List.map_cons,cls_words G hk]; rfl
theorem num_held (G:h.Good l) {k:Nat} (hk:k<l.length):((nmsK (posOf (l.take k)) l[k]).take (holdN (posOf (l.take k)) l[k])).map (fun i=>h.words.getD i 0)=heldM h (2*posOf (l.take k)):=by
 have L:=G.laid
 rw [split_at l k hk] at L
 have hn:=num_names G hk
 rw [List.map_take,hn]
 unfold holdN heldM namesM
 rw [half_pos,L.hd_at,L.fields_at]
 by_cases h4:(l[k]).x.fmt=4
 ·rw [if_pos h4]; simp [h4]
 ·rw [if_neg h4,List.take_of_length_le]
  ·by_cases h1:(l[k]).x.fmt=1
   ·rw [if_pos (by unfold Hd.ptrB; simp [h1]),if_pos h1]
   ·rw [if_neg (by unfold Hd.ptrB; simp [h1,h4]),if_neg h1]
  ·have:=congrArg List.length hn
   rw [List.length_map] at this
   rw [this]
   unfold namesM
   rw [half_pos,L.hd_at,L.fields_at]
   exact Nat.le_refl _
end
end
section
open Go.RowKit
theorem goesM_snoc {pl:List (Nat × Nat)} {p:Nat × Nat} (hn:p.1∉pl.map (·.1)) (x:Nat):goesM (pl++[p]) x=if x=p.1 then p.2 else goesM pl x:=by
 by_cases h:x=p.1
 ·subst h
  have h0:pl.find? (fun q=>q.1 == p.1)=none:=by
   rw [List.find?_eq_none]
   intro q hq he
   exact hn (List.mem_map.2 ⟨q,hq,by simpa using he⟩)
  unfold goesM
  rw [List.find?_append,h0,if_pos rfl]
  simp
 ·rw [if_neg h]
  unfold goesM
  rw [List.find?_append]
  have h1:([p]:List (Nat × Nat)).find? (fun q=>q.1 == x)=none:=by simp; exact fun e=>h e.symm
  rw [h1,Option.or_none]
def toL (pl:List (Nat × Nat)) (N:Nat):List Nat:=(List.range N).map (fun i=>goesM pl (2*i))
theorem toL_get (pl:List (Nat × Nat)) {N i:Nat} (hi:i<N):(u32s (toL pl N))[i]? = some (.int .u32 (goesM pl (2*i):Nat)):=by
 unfold u32s toL
 rw [List.getElem?_map,List.getElem?_map,List.getElem?_range hi]
 rfl
theorem toL_nil (N:Nat):toL [] N=List.replicate N 0:=by
 unfold toL
 apply List.ext_getElem
 ·simp
 ·intro i h1 h2
  simp [goesM]
theorem toL_set {pl:List (Nat × Nat)} {p:Nat × Nat} (hn:p.1∉pl.map (·.1)) {i:Nat} (hi:p.1=2*i) (N:Nat):(u32s (toL pl N)).set i (.int .u32 (p.2:Nat))=u32s (toL (pl++[p]) N):=by
 unfold u32s toL
 apply List.ext_getElem
 ·simp
 ·intro j h1 h2
  rw [List.getElem_set]
  simp only [List.getElem_map,List.getElem_range]
  rw [goesM_snoc hn]
  by_cases h:i=j
  ·subst h
   rw [if_pos rfl,if_pos hi.symm]
  ·rw [if_neg h,if_neg (by omega)]
def stepO (pl:List (Nat × Nat)) (void:Nat) (b:Ob) (j:Nat):List Nat:=b.x.w0 :: (if 0<j then whereM pl b.x.cls else b.x.cls) :: b.x.ser :: ((b.fs.take (j-1)).map (fldM pl void)++b.fs.drop (j-1))
def clrJ (pl:List (Nat × Nat)) (b:Ob) (j:Nat):Nat:=((b.fs.take (j-1)).filter (deadB pl)).length
def nameV (b:Ob) (j:Nat):Nat:=if j=0 then b.x.cls else b.fs.getD (j-1) 0
def newV (pl:List (Nat × Nat)) (void:Nat) (b:Ob) (j:Nat):Nat:=if j=0 then whereM pl b.x.cls else fldM pl void (b.fs.getD (j-1) 0)
section
variable {pl:List (Nat × Nat)} {void:Nat} {b:Ob}
theorem stepO_zero:stepO pl void b 0=b.ws:=by unfold stepO Ob.ws; simp
theorem stepO_len (j:Nat):(stepO pl void b j).length=3+b.fs.length:=by
 unfold stepO
 simp
 omega
theorem stepO_set {j:Nat} (hj:j≤b.fs.length):(stepO pl void b j).set (if j=0 then 1 else 2+j) (newV pl void b j)=stepO pl void b (j+1):=by
 cases j with
 | zero=>unfold stepO newV; simp
 | succ j=>
   have hj':j<b.fs.length:=by omega
   rw [if_neg (by omega),show 2+(j+1)=j+3 by omega]
   unfold stepO newV
   rw [if_pos (Nat.succ_pos _),if_pos (Nat.succ_pos _),if_neg (by omega)]
   simp only [Nat.add_sub_cancel,List.set_cons_succ]
   congr 3
   rw [List.set_append_right _ _ (by simp; omega),List.drop_eq_getElem_cons hj',List.length_map,List.length_take,show j-min j b.fs.length=0 by omega,List.set_cons_zero,List.take_add_one,List.getElem?_eq_getElem hj',List.getD_eq_getElem?_getD,List.getElem?_eq_getElem hj']
   simp
   rw [List.take_add_one,List.getElem?_map,List.getElem?_eq_getElem hj']
   simp
theorem stepO_end (p:Nat) (b:Ob):stepO pl void b (nmsK p b).length=(relob pl void b).ws:=by
 unfold nmsK
 rw [fldL_len]
 unfold stepO relob Ob.ws
 by_cases hp:b.x.ptrB=true
 ·simp [hp]
  rfl
 ·simp [hp]
  rfl
theorem clrJ_zero:clrJ pl b 0=0:=by simp [clrJ]
theorem clrJ_end (p:Nat) (b:Ob):clrJ pl b (nmsK p b).length=clearedB pl b:=by
 unfold nmsK
 rw [fldL_len]
 unfold clrJ clearedB
 by_cases hp:b.x.ptrB=true
 ·simp [hp]
 ·simp [hp]
theorem clrJ_le (j:Nat):clrJ pl b j≤b.fs.length:=by
 unfold clrJ
 have h1:=List.length_filter_le (deadB pl) (b.fs.take (j-1))
 rw [List.length_take] at h1
 omega
theorem clrJ_step {j:Nat} (hj:j≤b.fs.length):clrJ pl b (j+1)=clrJ pl b j+(if j≠0∧deadB pl (b.fs.getD (j-1) 0)=true then 1 else 0):=by
 cases j with
 | zero=>simp [clrJ]
 | succ j=>
   have hj':j<b.fs.length:=by omega
   unfold clrJ
   simp only [Nat.add_sub_cancel]
   rw [List.take_add_one,List.getElem?_eq_getElem hj',List.filter_append,List.length_append,List.getD_eq_getElem?_getD,List.getElem?_eq_getElem hj']
   by_cases hd:deadB pl b.fs[j]=true
   ·simp [hd]
   ·simp [hd]
end
section
variable {h:HM} {l:List Ob}
theorem nmsK_gets {p:Nat} {b:Ob} {j:Nat} (hj:j<(nmsK p b).length):(nmsK p b)[j]? = some (nmsK p b)[j]∧(nmsK p b)[j]=p+(if j=0 then 1 else 2+j):=by
 refine⟨List.getElem?_eq_getElem hj,?_⟩
 have:=(nmsK_get (List.getElem?_eq_getElem hj)).2.2
 rw [this]
 split <;> omega
theorem nms_at (G:h.Good l) {k:Nat} (hk:k<l.length) {j:Nat} (hj:j<(nmsK (posOf (l.take k)) l[k]).length):
 ∃ x,(nmsK (posOf (l.take k)) l[k])[j]? = some x∧x<h.words.length∧h.words.getD x 0=nameV l[k] j∧x=posOf (l.take k)+(if j=0 then 1 else 2+j)∧j≤(l[k]).fs.length:=by
 have hg:=nmsK_gets hj
 obtain⟨h1,h2⟩:=hg
 have h3:=(w0_parts G hk).2.2.2
 have hjl:j≤(l[k]).fs.length:=by have:=nmsK_len (posOf (l.take k)) l[k]; omega
 refine⟨_,h1,?_,?_,h2,hjl⟩
 ·rw [h2]; split <;> omega
 ·rw [h2]
  unfold nameV
  by_cases h0:j=0
  ·rw [if_pos h0,if_pos h0]; exact cls_words G hk
  ·rw [if_neg h0,if_neg h0,show posOf (l.take k)+(2+j)=posOf (l.take k)+3+(j-1) by omega]
   exact fld_words G hk (by omega)
theorem keep_dead (G:h.Good l) {p:Nat × Ob} (hp:p∈keepZ h l) (h1:p.2.x.fmt=1) {x:Nat} (hx:x∈p.2.fs):deadB (planM h l) x=false:=by
 unfold deadB
 refine decide_eq_false (fun hd=>hd.2 ?_)
 rw [planM_fst]
 refine live_of_held G hp ?_ hd.1
 rw [keepZ_held G hp,if_pos h1]
 exact List.mem_cons.2 (.inr hx)
theorem goes_zero {x:Nat}:goesM (planM h l) x=0↔x∉(planM h l).map (·.1):=by
 constructor
 ·intro h0 hm
  rw [planM_fst] at hm
  obtain⟨k,hk,e⟩:=goes_live h l hm
  rw [e] at h0
  unfold posOf at h0
  omega
 ·exact goesM_no
theorem fld_live {pl:List (Nat × Nat)} {void x:Nat} (hd:deadB pl x=false):fldM pl void x=whereM pl x:=by
 unfold deadB at hd
 unfold fldM
 rw [if_neg (of_decide_eq_false hd)]
theorem fld_dead {pl:List (Nat × Nat)} {void x:Nat} (hd:deadB pl x=true):fldM pl void x=void:=by
 unfold deadB at hd
 unfold fldM
 rw [if_pos (of_decide_eq_true hd)]
theorem new_cases (G:h.Good l) {p:Nat × Ob} (hp:p∈keepZ h l) {q j:Nat} (hj:j<(nmsK q p.2).length) (hjl:j≤p.2.fs.length) (void:Nat):
 (¬ (holdN q p.2≤j∧kindM (nameV p.2 j)=2∧whereM (planM h l) (nameV p.2 j)=0)→newV (planM h l) void p.2 j=whereM (planM h l) (nameV p.2 j)∧clrJ (planM h l) p.2 (j+1)=clrJ (planM h l) p.2 j)∧
  (holdN q p.2≤j∧kindM (nameV p.2 j)=2∧whereM (planM h l) (nameV p.2 j)=0→newV (planM h l) void p.2 j=void∧clrJ (planM h l) p.2 (j+1)=clrJ (planM h l) p.2 j+1):=by
 rw [clrJ_step hjl]
 by_cases h0:j=0
 ·subst h0
  have h1:1≤holdN q p.2:=by
   unfold holdN
   have:=nmsK_pos q p.2
   split <;> omega
  refine⟨fun _=>⟨by simp [newV,nameV],by simp⟩,fun hh=>absurd hh.1 (by omega)⟩
 ·have hx:p.2.fs.getD (j-1) 0∈p.2.fs:=by
   rw [List.getD_eq_getElem?_getD,List.getElem?_eq_getElem (by omega)]
   exact List.getElem_mem _
  unfold newV nameV
  rw [if_neg h0,if_neg h0]
  generalize p.2.fs.getD (j-1) 0=x at *
  have hb:p.2.x.fmt=1∨p.2.x.fmt=4:=Classical.byContradiction fun hn=>by
   rw [nmsK_no (fun e=>hn (.inl e)) (fun e=>hn (.inr e))] at hj
   simp at hj
   omega
  rcases hb with hb | hb
  ·have hd:=keep_dead G hp hb hx
   refine⟨fun _=>⟨fld_live hd,by simp [hd]⟩,fun hh=>?_⟩
   have h1:=hh.1
   unfold holdN at h1
   rw [if_neg (by omega)] at h1
   omega
  ·have hh1:holdN q p.2≤j:=by unfold holdN; rw [if_pos hb]; omega
   constructor
   ·intro hn
    have hd:deadB (planM h l) x=false:=by
     unfold deadB
     refine decide_eq_false (fun hd=>hn ⟨hh1,hd.1,?_⟩)
     unfold whereM
     rw [if_pos hd.1]
     exact goes_zero.2 hd.2
    exact⟨fld_live hd,by simp [hd]⟩
   ·rintro⟨_,hk,hw⟩
    have hd:deadB (planM h l) x=true:=by
     unfold whereM at hw
     rw [if_pos hk] at hw
     unfold deadB
     exact decide_eq_true ⟨hk,goes_zero.1 hw⟩
    exact⟨fld_dead hd,by simp [hd,h0]⟩
theorem name_32 (G:h.Good l) {p:Nat × Ob} (hp:p∈keepZ h l) {j:Nat} (hj:j≤p.2.fs.length):nameV p.2 j<4294967296:=by
 have K:=keepZ_ok G hp
 unfold nameV
 split
 ·exact K.fit.cls
 ·rw [List.getD_eq_getElem?_getD,List.getElem?_eq_getElem (by omega)]
  exact K.f32 _ (List.getElem_mem _)
theorem name_isB (G:h.Good l) {k:Nat} (hk:k<l.length) {j:Nat} (hj:j<(nmsK (posOf (l.take k)) l[k]).length) (h2:kindM (nameV l[k] j)=2):h.isB (nameV l[k] j)=true:=by
 obtain⟨x,h1,_,h3,_⟩:=nms_at G hk hj
 have hi:h.isB (2*posOf (l.take k))=true:=(G.laid.isB_iff _).2 ⟨l.take k,l[k],l.drop (k+1),split_at l k hk,rfl⟩
 refine names_isB G hi ?_ h2
 rw [← num_names G hk,← h3]
 exact List.mem_map.2 ⟨x,List.mem_of_getElem? h1,rfl⟩
end
end
section
open Go.RowKit
def zsK (l:List Int):List Value:=l.map (fun i=>Value.int .i64 i)
theorem zsK_app (a b:List Int):zsK (a++b)=zsK a++zsK b:=List.map_append
theorem one_zsK (l:List Int):∀ u∈zsK l,u.oneCell'=true:=by
 intro u hu; unfold zsK at hu; obtain⟨x,_,rfl⟩:=List.mem_map.1 hu; rfl
def markL (R:List Nat) (N:Nat):List Bool:=(List.range N).map (fun i=>decide (2*i∈R))
theorem markL_get (R:List Nat) {N i:Nat} (hi:i<N):(bools (markL R N))[i]? = some (.bool (decide (2*i∈R))):=by
 unfold bools markL
 rw [List.getElem?_map,List.getElem?_map,List.getElem?_range hi]
 rfl
theorem markL_nil (N:Nat):markL [] N=List.replicate N false:=by
 unfold markL
 apply List.ext_getElem
 ·simp
 ·intro i h1 h2
  simp
theorem markL_set (R:List Nat) (N i:Nat):(bools (markL R N)).set i (.bool true)=bools (markL (R++[2*i]) N):=by
 unfold bools markL
 apply List.ext_getElem
 ·simp
 ·intro j h1 h2
  simp only [List.length_set,List.length_map,List.length_range] at h1
  rw [List.getElem_set]
  simp only [List.getElem_map,List.getElem_range]
  by_cases h:i=j
  ·subst h
   rw [if_pos rfl]; simp
  ·rw [if_neg h]
   have:¬ j=i:=fun e=>h e.symm
   simp [List.mem_append,this]
   intro e; omega
structure WkAt (w:World) (B gx gs N:Nat) (vl vc:Value) (L:Wk):Prop where
 box:Blk w gx 383 #[vl,vc,.slice (some ⟨gs,0,none⟩) N N]
 list:w.ownsRow B 54 1 vl L.length (u32s (metO L))
 came:w.ownsRow B 3 1 vc L.length (zsK (L.map (·.2)))
 seen:Row w gs 4 N (bools (markL (metO L) N))
 hg:B≤gx
 hs:B≤gs
structure WFr (gx gs:Nat) (vl vc vl' vc':Value) (w w':World):Prop where
 os:w'.os=w.os
 tape:w'.tape=w.tape
 output:w'.output=w.output
 size:w.heap.size≤w'.heap.size
 same:∀ k,k<w.heap.size→k≠gx→k≠gs→vl.ownBlock≠some k→vc.ownBlock≠some k→w'.heap[k]? = w.heap[k]?
 blk:∀ k,k<w.heap.size→vl.ownBlock≠some k→vc.ownBlock≠some k→vl'.ownBlock≠some k∧vc'.ownBlock≠some k
section
variable {w w' w1:World} {B gx gs N:Nat} {vl vc vl1 vc1 vl' vc':Value} {L:Wk}
theorem WFr.refl (gx gs:Nat) (vl vc:Value) (w:World):WFr gx gs vl vc vl vc w w:=⟨rfl,rfl,rfl,Nat.le_refl _,fun _ _ _ _ _ _=>rfl,fun _ _ h1 h2=>⟨h1,h2⟩⟩
theorem WFr.below (h:WFr gx gs vl vc vl' vc' w w') (K:WkAt w B gx gs N vl vc L) (hw:B≤w.heap.size):Below B w w':=
 ⟨h.os,h.tape,h.output,h.size,fun k hk=>h.same k (by omega) (by have:=K.hg; omega) (by have:=K.hs; omega) (fun e=>by have:=(K.list.lt k e).1; omega) (fun e=>by have:=(K.came.lt k e).1; omega)⟩
theorem WkAt.below (K:WkAt w B gx gs N vl vc L) (h:Below w.heap.size w w'):WkAt w' B gx gs N vl vc L:=
 ⟨K.box.below h K.box.lt,own_below K.list h,own_below K.came h,K.seen.below h,K.hg,K.hs⟩
end
def RputP (B gx gs N:Nat) (vl vc:Value) (L:Wk) (w:World) (e:Ending) (w':World):Prop:=
 e = .returned (.tuple #[])∧∃ vl' vc',WkAt w' B gx gs N vl' vc' L∧WFr gx gs vl vc vl' vc' w w'
end
section
open Go.RowKit
theorem fmt_nums {w0 f:Nat} (h:w0<536870912) (h1:w0 / 16777216%8=f):∃ w1:Nat,((w0:Int)).tdiv 16777216=(w1:Int)∧w1<32∧((w1:Int)).tmod 8=(f:Int)∧f<8:=by
 refine⟨w0 / 16777216,(Int.ofNat_tdiv _ _).symm,Nat.div_lt_of_lt_mul (Nat.lt_of_lt_of_eq h (by decide)),?_,?_⟩
 ·rw [← h1]; exact (Int.ofNat_tmod _ _).symm
 ·have:=Nat.mod_lt (w0 / 16777216) (show 8>0 by decide)
  exact Nat.lt_of_le_of_lt (Nat.le_of_eq h1.symm) this
theorem wr_u32 {n:Nat} (h:n<32):IntKind.u32.wrap (n:Int)=(n:Int):=IntWalk.u32_in _ (by omega)
theorem wr_64 {n:Nat} (h:n<8):wrap64 (n:Int)=(n:Int):=IntWalk.wrap64_in _ (by omega)
end
section
open Go.RowKit
attribute [local go_sem] Oper.semAt_some
section
variable {w:World} {h:HM} {l:List Ob} {A A':Option Addr} {n c n' c':Nat}
set_option maxHeartbeats 1000000 in
theorem rformat_any (G:h.Good l) (hr:Reads w w.heap.size 1 A n (u32s h.words)) {k:Nat} (hk:k<l.length):
 Calls Tryz.prog 271 #[StV A n c A' n' c',.int .i64 (posOf (l.take k):Nat)] w (Told (.int .i64 ((l[k]).x.fmt:Nat)) w):=by
 obtain⟨h0,_,h1,h3⟩:=w0_parts G hk
 have hln:n=h.words.length:=by have:=hr.1; rw [u32s_len] at this; omega
 subst hln
 have hlt:posOf (l.take k)<h.words.length:=by omega
 have hBX:=(Below.refl w.heap.size w).alloc (Nat.le_refl _) (.cells #[.slice A h.words.length c,.slice A' n' c'] 280)
 obtain⟨ad,u,rfl,hbl,hu,hc⟩:=(hr.below hBX).at_ hlt
 rw [u32s_get (by omega),h0] at hu
 injection hu with hu
 subst hu
 have hw0:(l[k]).x.w0<536870912:=w0_lt (G.laid.ok _ (List.getElem_mem hk)).fit
 have HB:=Lib.hid hBX
 clear h0 h3 hr G hBX
 unfold StV
 generalize posOf (l.take k)=at_ at *
 generalize (l[k]).x.w0=w0 at *
 generalize (l[k]).x.fmt=f at *
 obtain⟨w1,hm1,hq,hm2,hf8⟩:=fmt_nums hw0 h1
 have hw64:=wr_64 hf8
 have hwr:=wr_u32 hq
 have hwf:=wr_u32 (Nat.lt_trans hf8 (by decide))
 clear h1 hw0 hq hf8
 go_enter Tryz.func271,Tryz.ntmps271
 go_wp2_with fail
 go_ret
 exact⟨by simp only [hw64]; rfl,HB.out⟩
end
end
section
open Go.RowKit
attribute [local go_sem] Oper.semAt_some
theorem one_intsK (l:List Nat):∀ u∈ints l,u.oneCell'=true:=by
 intro u hu; unfold ints at hu; obtain⟨x,_,rfl⟩:=List.mem_map.1 hu; rfl
theorem ints_appK (a b:List Nat):ints (a++b)=ints a++ints b:=List.map_append
theorem info_intK:(Tryz.prog.info? 3).map (fun i=>(i.zero,i.size,i.bytes))=some (some (.int .i64 0),1,8):=by kernel_rfl
theorem ownI_new (w:World) (x:Int):(w.alloc (.cells #[.int .i64 x] 3)).ownsRow w.heap.size 3 1 (.slice (some ⟨w.heap.size,0,none⟩) 1 1) 1 [.int .i64 x]:=
 ⟨rfl,.inr ⟨w.heap.size,1,#[.int .i64 x],rfl,Nat.le_refl _,heap_alloc_new w _,Nat.le_refl _,by decide,by simp,rfl⟩⟩
theorem wrS3 {a f:Nat} (h:a+3+f≤1048576):wrap64 ((a:Int)+3)=(a:Int)+3:=IntWalk.wrap64_in _ (by omega)
theorem wrS4 {a f:Nat} (h:a+3+f≤1048576):wrap64 ((a:Int)+3+(f:Int))=(a:Int)+3+(f:Int):=IntWalk.wrap64_in _ (by omega)
section
variable {w:World} {h:HM} {l:List Ob} {A A':Option Addr} {n c n' c':Nat}
def RNamP (p:Nat) (b:Ob) (w:World) (e:Ending) (w':World):Prop:=
 ∃ v,e = .returned (.tuple #[v,.int .i64 (holdN p b:Nat)])∧w'.ownsRow w.heap.size 3 1 v (nmsK p b).length (ints (nmsK p b))∧Below w.heap.size w w'
set_option maxRecDepth 100000 in
set_option maxHeartbeats 4000000 in
theorem rnames_any (G:h.Good l) (hr:Reads w w.heap.size 1 A n (u32s h.words)) {k:Nat} (hk:k<l.length):
 Calls Tryz.prog 242 #[StV A n c A' n' c',.int .i64 (posOf (l.take k):Nat)] w (RNamP (posOf (l.take k)) (l[k]) w):=by
 obtain⟨-,-,h1,h3⟩:=w0_parts G hk
 have HF:=Lib.hid (fun (w':World) (hb:Below w.heap.size w w')=>rformat_any (A':=A') (n':=n') (c':=c') (c:=c) G ((hr.below hb).more hb.size) hk)
 have HZ:=Lib.hid (fun (w':World) (hb:Below w.heap.size w w')=>rsize_any (A':=A') (n':=n') (c':=c') (c:=c) G ((hr.below hb).more hb.size) hk)
 have hwl:h.words.length≤1048576:=by have:=G.fit.room; have:=G.fit.hi; omega
 have h3':posOf (l.take k)+3+(l[k]).fs.length≤1048576:=by omega
 have hB1:=(Below.refl w.heap.size w).alloc (Nat.le_refl _) (.cells #[.slice A n c,.slice A' n' c'] 280)
 have X1:=Blk.new w 280 #[.slice A n c,.slice A' n' c']
 have HB1:=Lib.hid hB1
 have HX1:=Lib.hid X1
 have HS1:=Lib.hid (World.size_alloc w (.cells #[.slice A n c,.slice A' n' c'] 280))
 obtain⟨i0,hi0,hz0,hz1,hz2⟩:=info_parts info_intK
 generalize posOf (l.take k)=at_ at *
 have HN1:=Lib.hid (fun (hp:(l[k]).x.fmt≠1) (hq:(l[k]).x.fmt≠4)=>nmsK_no (p:=at_) (b:=l[k]) hp hq)
 have HN2:=Lib.hid (fun (hp:(l[k]).x.fmt=1∨(l[k]).x.fmt=4)=>nmsK_yes (p:=at_) (b:=l[k]) hp)
 have hHO:holdN at_ (l[k])=if (l[k]).x.fmt=4 then 1 else (nmsK at_ (l[k])).length:=rfl
 have HHO:=Lib.hid hHO
 generalize hnl:nmsK at_ (l[k])=nl at *
 generalize hhn:holdN at_ (l[k])=hn at *
 have HPP:RNamP at_ (l[k]) w=fun e w'=>∃ v,e = .returned (.tuple #[v,.int .i64 (hn:Nat)])∧w'.ownsRow w.heap.size 3 1 v nl.length (ints nl)∧Below w.heap.size w w':=by
  unfold RNamP; rw [hnl,hhn]
 rw [HPP]
 clear HPP hnl hhn hHO h1 h3 hB1 X1 hr
 generalize (l[k]).x.fmt=f at *
 generalize (l[k]).fs.length=fl at *
 clear hk G
 have hw1:wrap64 ((at_:Int)+1)=(at_:Int)+1:=by first | exact IntWalk.wrap64_in _ (by omega) | (unfold wrap64; omega)
 unfold StV at HF HZ ⊢
 have hcase:¬ (f=1∨f=4)∨f=1∨f=4:=by omega
 rcases hcase with hfp | rfl | rfl
 ·have hn1:=HN1.out (fun e=>hfp (.inl e)) (fun e=>hfp (.inr e))
  have hd1:((f:Int) == 1)=false:=by simp; omega
  have hd4:((f:Int) == 4)=false:=by simp; omega
  have hho:=HHO.out
  rw [if_neg (fun e=>hfp (.inr e)),hn1] at hho
  subst hho
  subst hn1
  clear hfp HN1 HN2 HHO HZ
  go_enter Tryz.func242,Tryz.ntmps242
  go_upto_region 2 with fail
  have hb2:=HB1.out.alloc HB1.out.size (.cells #[.int .i64 ((at_:Int)+1)] 3)
  have HX2:=Lib.hid (HX1.out.alloc (.cells #[.int .i64 ((at_:Int)+1)] 3))
  have hown:=ownI_new (w.alloc (.cells #[.slice A n c,.slice A' n' c'] 280)) ((at_:Int)+1)
  rw [World.size_alloc] at hown
  have HOW2:=Lib.hid (show ((w.alloc (.cells #[.slice A n c,.slice A' n' c'] 280)).alloc (.cells #[.int .i64 ((at_:Int)+1)] 3)).ownsRow w.heap.size 3 1 (.slice (some ⟨w.heap.size+1,0,none⟩) 1 1) 1 (ints [at_+1]) from own_base hown (by omega))
  have x0:=HX2.out.cell 0
  have x1:=HX2.out.cell 1
  have HFC:=Lib.hid (HF.out _ hb2)
  have HB2:=Lib.hid hb2
  have hs2:w.heap.size<((w.alloc (.cells #[.slice A n c,.slice A' n' c'] 280)).alloc (.cells #[.int .i64 ((at_:Int)+1)] 3)).heap.size:=by simp; omega
  clear hb2 hown HB1 HX1 HF
  generalize ((w.alloc (.cells #[.slice A n c,.slice A' n' c'] 280)).alloc (.cells #[.int .i64 ((at_:Int)+1)] 3))=W2 at *
  go_wp2_with fail
  refine HFC.out.mono ?_
  rintro e W3 ⟨rfl,hb3⟩
  have HB3:=Lib.hid (below_top HB2.out hb3)
  have HOW3:=Lib.hid (own_below HOW2.out hb3)
  have HX3:=Lib.hid (HX2.out.below hb3 HX2.out.lt)
  clear hb3 HFC HB2 HOW2 HX2 x0 x1 hs2
  go_wp2_with fail
  go_ret2
  exact⟨_,rfl,HOW3.out,HB3.out⟩
 ·have hn1:=HN2.out (.inl rfl)
  have hho:=HHO.out
  rw [if_neg (by decide),hn1] at hho
  subst hho
  subst hn1
  clear HN1 HN2 HHO
  go_enter Tryz.func242,Tryz.ntmps242
  go_upto_region 2 with fail
  have hb2:=HB1.out.alloc HB1.out.size (.cells #[.int .i64 ((at_:Int)+1)] 3)
  have HX2:=Lib.hid (HX1.out.alloc (.cells #[.int .i64 ((at_:Int)+1)] 3))
  have hown:=ownI_new (w.alloc (.cells #[.slice A n c,.slice A' n' c'] 280)) ((at_:Int)+1)
  rw [World.size_alloc] at hown
  have HOW2:=Lib.hid (show ((w.alloc (.cells #[.slice A n c,.slice A' n' c'] 280)).alloc (.cells #[.int .i64 ((at_:Int)+1)] 3)).ownsRow w.heap.size 3 1 (.slice (some ⟨w.heap.size+1,0,none⟩) 1 1) 1 (ints [at_+1]) from own_base hown (by omega))
  have x0:=HX2.out.cell 0
  have x1:=HX2.out.cell 1
  have HFC:=Lib.hid (HF.out _ hb2)
  have HB2:=Lib.hid hb2
  have hs2:w.heap.size<((w.alloc (.cells #[.slice A n c,.slice A' n' c'] 280)).alloc (.cells #[.int .i64 ((at_:Int)+1)] 3)).heap.size:=by simp; omega
  clear hb2 hown HB1 HX1 HF
  generalize ((w.alloc (.cells #[.slice A n c,.slice A' n' c'] 280)).alloc (.cells #[.int .i64 ((at_:Int)+1)] 3))=W2 at *
  go_wp2_with fail
  refine HFC.out.mono ?_
  rintro e W3 ⟨rfl,hb3⟩
  have HB3:=Lib.hid (below_top HB2.out hb3)
  have HOW3:=Lib.hid (own_below HOW2.out hb3)
  have HX3:=Lib.hid (HX2.out.below hb3 HX2.out.lt)
  clear hb3 HFC HB2 HOW2 HX2 x0 x1 hs2
  go_wp2_with fail
  go_loopw [6,8] (fun lv iv wr=>∃ i:Nat,iv = .int .i64 i∧i≤fl∧wr.ownsRow w.heap.size 3 1 lv (i+1) (ints (fldL at_ i))∧Blk wr w.heap.size 280 #[.slice A n c,.slice A' n' c']∧Below w.heap.size w wr) (fun _ iv _=>fl-(intOf iv).toNat)
  case atStart=>exact⟨0,rfl,Nat.zero_le _,HOW3.out,HX3.out,HB3.out⟩
  case round=>
   clear HB3 HOW3 HX3
   obtain⟨i,rfl,hi,hown,hx,hb⟩:=hrel
   have HOW:=Lib.hid hown
   have HX:=Lib.hid hx
   have HB:=Lib.hid hb
   have x0:=hx.cell 0
   have x1:=hx.cell 1
   have HSZ:=Lib.hid (HZ.out wr hb)
   clear hown hx hb
   have hww:=Nat.le_trans (Nat.add_le_add_left hi (at_+3)) h3'
   by_cases hlt:i<fl
   ·have hw3:wrap64 ((at_:Int)+3)=(at_:Int)+3:=wrS3 h3'
    have hw4:wrap64 ((at_:Int)+3+(i:Int))=(at_:Int)+3+(i:Int):=wrS4 hww
    have HSN:=Lib.hid (fldL_snoc at_ i)
    have HLT:=Lib.hid hlt
    have hi2:i≤1048576:=Nat.le_trans (Nat.le_add_left _ _) hww
    go_wp2_with fail
    refine HSZ.out.mono ?_
    rintro e w5 ⟨rfl,hb5⟩
    have HOW5:=Lib.hid (own_below HOW.out hb5)
    have HX5:=Lib.hid (HX.out.below hb5 HX.out.lt)
    have HB5:=Lib.hid (below_top HB.out hb5)
    clear hb5 HSZ HOW HX HB x0 x1
    have hs5:=HB5.out.size
    go_wp2_with (at_builtin; refine wpList_append_any _ rfl (.tmp 28) (.tmp 33) _ rfl w.heap.size 3 i0 _ 1 8 Tryz.underlying211 hi0 hz0 hz1 hz2 rfl (by omega) u6 (i+1) _ rfl (HOW5.out.alloc _) (w5.heap.size+1) (some ⟨w5.heap.size,0,none⟩) 1 1 [.int .i64 ((at_:Int)+3+(i:Int))] rfl ⟨rfl,fun _=>⟨_,rfl,by first | exact Nat.zero_lt_one | decide | simp,cell_one_new _ _ _⟩⟩ (fun u hu=>by rcases List.mem_singleton.1 hu with rfl; rfl) (by simp only [maxLen]; omega) (by omega) (by first | omega | (simp; omega)) ?_; intro v1 w6 hown6 hgrow hat6)
    have hb6:=below_grown (Nat.le_refl _) (HB5.out.alloc hs5 _) hgrow (fun q hq=>(HOW5.out.lt q hq).1)
    have hx6:=HX5.out
    go_roundw
    case rel=>exact⟨i+1,by go_num,HLT.out,by rw [HSN.out,ints_appK]; exact hown6,(HX5.out.alloc _).same (hgrow.block _ (by have:=HX5.out.lt; simp; omega) (fun e=>own_ne_blk HOW5.out HX5.out (by decide) (by first | exact e | exact e.symm))),hb6⟩
    case measure=>have:=HLT.out; simp [intOf]; omega
   ·obtain rfl:i=fl:=by omega
    have hlt':decide ((i:Int)<(i:Int))=false:=by simp
    have HE:=Lib.hid (And.intro HOW.out HB.out)
    clear HOW HB HX hi hlt hww
    go_wp2_with fail
    refine HSZ.out.mono ?_
    rintro e w5 ⟨rfl,hb5⟩
    have HOW5:=Lib.hid (own_below HE.out.1 hb5)
    have HB5:=Lib.hid (below_top HE.out.2 hb5)
    obtain⟨A5,c5,hv5⟩:=own_val HOW5.out
    subst hv5
    clear hb5 HSZ HE x0 x1
    go_wp2_with fail
    go_ret2
    exact⟨_,by rw [fldL_len]; rfl,by rw [fldL_len]; exact HOW5.out,HB5.out⟩
 ·have hn1:=HN2.out (.inr rfl)
  have hho:=HHO.out
  rw [if_pos rfl] at hho
  subst hho
  subst hn1
  clear HN1 HN2 HHO
  go_enter Tryz.func242,Tryz.ntmps242
  go_upto_region 2 with fail
  have hb2:=HB1.out.alloc HB1.out.size (.cells #[.int .i64 ((at_:Int)+1)] 3)
  have HX2:=Lib.hid (HX1.out.alloc (.cells #[.int .i64 ((at_:Int)+1)] 3))
  have hown:=ownI_new (w.alloc (.cells #[.slice A n c,.slice A' n' c'] 280)) ((at_:Int)+1)
  rw [World.size_alloc] at hown
  have HOW2:=Lib.hid (show ((w.alloc (.cells #[.slice A n c,.slice A' n' c'] 280)).alloc (.cells #[.int .i64 ((at_:Int)+1)] 3)).ownsRow w.heap.size 3 1 (.slice (some ⟨w.heap.size+1,0,none⟩) 1 1) 1 (ints [at_+1]) from own_base hown (by omega))
  have x0:=HX2.out.cell 0
  have x1:=HX2.out.cell 1
  have HFC:=Lib.hid (HF.out _ hb2)
  have HB2:=Lib.hid hb2
  have hs2:w.heap.size<((w.alloc (.cells #[.slice A n c,.slice A' n' c'] 280)).alloc (.cells #[.int .i64 ((at_:Int)+1)] 3)).heap.size:=by simp; omega
  clear hb2 hown HB1 HX1 HF
  generalize ((w.alloc (.cells #[.slice A n c,.slice A' n' c'] 280)).alloc (.cells #[.int .i64 ((at_:Int)+1)] 3))=W2 at *
  go_wp2_with fail
  refine HFC.out.mono ?_
  rintro e W3 ⟨rfl,hb3⟩
  have HB3:=Lib.hid (below_top HB2.out hb3)
  have HOW3:=Lib.hid (own_below HOW2.out hb3)
  have HX3:=Lib.hid (HX2.out.below hb3 HX2.out.lt)
  clear hb3 HFC HB2 HOW2 HX2 x0 x1 hs2
  go_wp2_with fail
  go_loopw [6,8] (fun lv iv wr=>∃ i:Nat,iv = .int .i64 i∧i≤fl∧wr.ownsRow w.heap.size 3 1 lv (i+1) (ints (fldL at_ i))∧Blk wr w.heap.size 280 #[.slice A n c,.slice A' n' c']∧Below w.heap.size w wr) (fun _ iv _=>fl-(intOf iv).toNat)
  case atStart=>exact⟨0,rfl,Nat.zero_le _,HOW3.out,HX3.out,HB3.out⟩
  case round=>
   clear HB3 HOW3 HX3
   obtain⟨i,rfl,hi,hown,hx,hb⟩:=hrel
   have HOW:=Lib.hid hown
   have HX:=Lib.hid hx
   have HB:=Lib.hid hb
   have x0:=hx.cell 0
   have x1:=hx.cell 1
   have HSZ:=Lib.hid (HZ.out wr hb)
   clear hown hx hb
   have hww:=Nat.le_trans (Nat.add_le_add_left hi (at_+3)) h3'
   by_cases hlt:i<fl
   ·have hw3:wrap64 ((at_:Int)+3)=(at_:Int)+3:=wrS3 h3'
    have hw4:wrap64 ((at_:Int)+3+(i:Int))=(at_:Int)+3+(i:Int):=wrS4 hww
    have HSN:=Lib.hid (fldL_snoc at_ i)
    have HLT:=Lib.hid hlt
    have hi2:i≤1048576:=Nat.le_trans (Nat.le_add_left _ _) hww
    go_wp2_with fail
    refine HSZ.out.mono ?_
    rintro e w5 ⟨rfl,hb5⟩
    have HOW5:=Lib.hid (own_below HOW.out hb5)
    have HX5:=Lib.hid (HX.out.below hb5 HX.out.lt)
    have HB5:=Lib.hid (below_top HB.out hb5)
    clear hb5 HSZ HOW HX HB x0 x1
    have hs5:=HB5.out.size
    go_wp2_with (at_builtin; refine wpList_append_any _ rfl (.tmp 28) (.tmp 33) _ rfl w.heap.size 3 i0 _ 1 8 Tryz.underlying211 hi0 hz0 hz1 hz2 rfl (by omega) u6 (i+1) _ rfl (HOW5.out.alloc _) (w5.heap.size+1) (some ⟨w5.heap.size,0,none⟩) 1 1 [.int .i64 ((at_:Int)+3+(i:Int))] rfl ⟨rfl,fun _=>⟨_,rfl,by first | exact Nat.zero_lt_one | decide | simp,cell_one_new _ _ _⟩⟩ (fun u hu=>by rcases List.mem_singleton.1 hu with rfl; rfl) (by simp only [maxLen]; omega) (by omega) (by first | omega | (simp; omega)) ?_; intro v1 w6 hown6 hgrow hat6)
    have hb6:=below_grown (Nat.le_refl _) (HB5.out.alloc hs5 _) hgrow (fun q hq=>(HOW5.out.lt q hq).1)
    have hx6:=HX5.out
    go_roundw
    case rel=>exact⟨i+1,by go_num,HLT.out,by rw [HSN.out,ints_appK]; exact hown6,(HX5.out.alloc _).same (hgrow.block _ (by have:=HX5.out.lt; simp; omega) (fun e=>own_ne_blk HOW5.out HX5.out (by decide) (by first | exact e | exact e.symm))),hb6⟩
    case measure=>have:=HLT.out; simp [intOf]; omega
   ·obtain rfl:i=fl:=by omega
    have hlt':decide ((i:Int)<(i:Int))=false:=by simp
    have HE:=Lib.hid (And.intro HOW.out HB.out)
    clear HOW HB HX hi hlt hww
    go_wp2_with fail
    refine HSZ.out.mono ?_
    rintro e w5 ⟨rfl,hb5⟩
    have HOW5:=Lib.hid (own_below HE.out.1 hb5)
    have HB5:=Lib.hid (below_top HE.out.2 hb5)
    obtain⟨A5,c5,hv5⟩:=own_val HOW5.out
    subst hv5
    clear hb5 HSZ HE x0 x1
    go_wp2_with fail
    go_ret2
    exact⟨_,rfl,by rw [fldL_len]; exact HOW5.out,HB5.out⟩
end
end
section
open Go.RowKit
attribute [local go_sem] Oper.semAt_some
theorem krkind_any (o:Nat) (ho:o<4294967296) (w:World):
 Calls Tryz.prog 243 #[.int .u32 o] w fun e w'=>e = .returned (.int .i64 (kindM o))∧w=w':=by
 by_cases h0:o=0
 ·subst h0
  go_enter Tryz.func243,Tryz.ntmps243
  go_wp2_with fail
  go_ret
  exact⟨rfl,rfl⟩
 ·have hb:((o:Int) == 0)=false:=by simpa using h0
  by_cases h2:o%2=1
  ·have h1:(((o:Int)%2) == 1)=true:=by simp; omega
   have HK:=Lib.hid (show kindM o=1 by simp [kindM,h0,h2]); clear h2 h0
   go_enter Tryz.func243,Tryz.ntmps243
   go_wp2_with fail
   go_ret
   exact⟨by rw [HK.out]; rfl,rfl⟩
  ·have h1:(((o:Int)%2) == 1)=false:=by simp; omega
   have HK:=Lib.hid (show kindM o=2 by simp [kindM,h0,h2]); clear h2 h0
   go_enter Tryz.func243,Tryz.ntmps243
   go_wp2_with fail
   go_ret
   exact⟨by rw [HK.out]; rfl,rfl⟩
theorem own_ne_own {w:World} {B B' s s' n n':Nat} {e e':TypeId} {v v':Value} {xs xs':List Value} (h:w.ownsRow B e s v n xs) (k:w.ownsRow B' e' s' v' n' xs') (hne:e≠e'):∀ q,v.ownBlock=some q→v'.ownBlock≠some q:=by
 intro q hq
 rcases k.2 with ⟨rfl,_⟩ | ⟨g',cap,cur,rfl,_,h3,_⟩
 ·intro e; cases e
 ·intro e2
  injection e2 with e2
  subst e2
  exact own_ne_blk h h3 hne hq
theorem kind2 {o:Nat} (h:kindM o=2):o=2*(o / 2)∧o≠0:=by
 unfold kindM at h
 split at h
 ·cases h
 ·split at h
  ·cases h
  ·omega
set_option maxRecDepth 100000 in
set_option maxHeartbeats 4000000 in
theorem krput_any {w:World} {B gx gs N:Nat} {vl vc:Value} {L:Wk} (K:WkAt w B gx gs N vl vc L) (hB:B≤w.heap.size) {o:Nat} (ho:o<4294967296) (hk:kindM o=2→o / 2<N) (by_:Int) (hl:L.length≤4194304):
 Calls Tryz.prog 291 #[.pointer (some ⟨gx,0,none⟩),.int .u32 o,.int .i64 by_] w (RputP B gx gs N vl vc (putW L o by_) w):=by
 have HK:=Lib.hid (krkind_any o ho w)
 by_cases hk2:kindM o=2
 case neg=>
  have e2:((kindM o:Int) != 2)=true:=by simp; omega
  have HF:=Lib.hid (show putW L o by_=L from putW_old (fun e=>hk2 e.1))
  have HG:=Lib.hid K
  clear hk2 K hk
  generalize kindM o=k at *
  go_enter Tryz.func291,Tryz.ntmps291
  go_wp2_with fail
  refine HK.out.mono ?_
  rintro e w' ⟨rfl,rfl⟩
  go_wp2_with fail
  refine bodyPost_ret (v:=.tuple #[]) (by simp [results,Tryz.results291,go_sem]) rfl ?_
  exact⟨rfl,vl,vc,by rw [HF.out]; exact HG.out,.refl _ _ _ _ _⟩
 case pos=>
 rw [hk2] at HK
 have hi:=hk hk2
 have HO2:=Lib.hid (kind2 hk2).1
 have hN:N≤9223372036854775807:=by
  have h1:=K.seen.len_le
  obtain⟨cur,_,_,hm,_⟩:=K.seen
  simp only [maxLen] at hm
  omega
 have c0:=K.box.cell 0
 have c1:=K.box.cell 1
 have c2:=K.box.cell 2
 have hsc:=K.seen.cell (markL_get (metO L) hi)
 have hq:((o:Int)).tdiv 2=((o / 2:Nat):Int):=by rw [Int.tdiv_eq_ediv_of_nonneg (by omega)]; omega
 have hq2:((o:Int)) / 2=((o / 2:Nat):Int):=by omega
 have hw64:wrap64 ((o / 2:Nat):Int)=((o / 2:Nat):Int):=IntWalk.wrap64_in _ (by omega)
 have HNEW:=Lib.hid (fun (hm:o∉metO L)=>putW_new (b:=by_) hk2 hm)
 have HOLD:=Lib.hid (fun (hm:o∈metO L)=>putW_old (o:=o) (b:=by_) (l:=L) (fun e=>e.2 hm))
 rw [← (kind2 hk2).1] at hsc
 clear hk hk2
 generalize o / 2=i at *
 by_cases hm:o∈metO L
 ·rw [decide_eq_true hm] at hsc
  have HF:=Lib.hid (HOLD.out hm)
  have HG:=Lib.hid K
  clear hm K HOLD HNEW
  go_enter Tryz.func291,Tryz.ntmps291
  go_wp2_with fail
  refine HK.out.mono ?_
  rintro e w' ⟨rfl,rfl⟩
  go_wp2_with fail
  refine bodyPost_ret (v:=.tuple #[]) (by simp [results,Tryz.results291,go_sem]) rfl ?_
  exact⟨rfl,vl,vc,by rw [HF.out]; exact HG.out,.refl _ _ _ _ _⟩
 ·rw [decide_eq_false hm] at hsc
  have HF:=Lib.hid (HNEW.out hm)
  have HG:=Lib.hid K
  clear hm K HOLD HNEW
  have z2:=HG.out.seen.frozen i
  obtain⟨i0,hi0,hz0,hz1,hz2⟩:=info_parts info_oop
  obtain⟨j0,hj0,hy0,hy1,hy2⟩:=info_parts info_intK
  go_enter Tryz.func291,Tryz.ntmps291
  go_wp2_with fail
  refine HK.out.mono ?_
  rintro e w' ⟨rfl,rfl⟩
  go_upto_region 2 with fail
  have hs2:∀ q,q≠gs→(w.setCell ⟨gs,i,none⟩ (.bool true)).heap[q]? = w.heap[q]? :=fun q hq=>Below.heap_setCell w ⟨gs,i,none⟩ _ q hq
  have nGS:gs≠gx:=HG.out.seen.ne_blk HG.out.box (by decide)
  have hNL:vl.ownBlock≠some gs:=by obtain⟨cur,hb,_⟩:=HG.out.seen; exact own_ne_blk HG.out.list hb (by decide)
  have hNC:vc.ownBlock≠some gs:=by obtain⟨cur,hb,_⟩:=HG.out.seen; exact own_ne_blk HG.out.came hb (by decide)
  have HBX:=Lib.hid (HG.out.box.same (hs2 gx nGS.symm))
  have HOL:=Lib.hid (own_keep HG.out.list (fun q hq=>hs2 q (fun e=>hNL (e ▸ hq))))
  have HOC:=Lib.hid (own_keep HG.out.came (fun q hq=>hs2 q (fun e=>hNC (e ▸ hq))))
  have HSN:=Lib.hid (show Row (w.setCell ⟨gs,i,none⟩ (.bool true)) gs 4 N (bools (markL (metO L++[o]) N)) by
   have:=HG.out.seen.set i (.bool true)
   rw [markL_set,← HO2.out] at this
   exact this)
  have HS2:=Lib.hid (show (w.setCell ⟨gs,i,none⟩ (.bool true)).os=w.os∧(w.setCell ⟨gs,i,none⟩ (.bool true)).tape=w.tape∧(w.setCell ⟨gs,i,none⟩ (.bool true)).output=w.output∧(w.setCell ⟨gs,i,none⟩ (.bool true)).heap.size=w.heap.size∧∀ q,q≠gs→(w.setCell ⟨gs,i,none⟩ (.bool true)).heap[q]? = w.heap[q]? from⟨rfl,rfl,rfl,by simp [World.setCell],hs2⟩)
  have HGM:=Lib.hid (And.intro HG.out.hg HG.out.hs)
  have hB2:B≤(w.setCell ⟨gs,i,none⟩ (.bool true)).heap.size:=by rw [HS2.out.2.2.2.1]; exact hB
  clear hs2 nGS hNL hNC HG c0 c1 c2 hsc z2 hq hq2 hw64 hi HK
  generalize w.setCell ⟨gs,i,none⟩ (.bool true)=w2 at *
  have c0:=HBX.out.cell 0
  have HNL:=Lib.hid (own_ne_blk HOL.out HBX.out (by decide))
  have HNC:=Lib.hid (own_ne_blk HOC.out HBX.out (by decide))
  go_upto_region 3 with (at_builtin; refine wpList_append_any _ rfl (.tmp 32) (.tmp 34) _ rfl B 54 i0 _ 1 4 Tryz.underlying101 hi0 hz0 hz1 hz2 rfl (by omega) vl L.length _ rfl (own_keep HOL.out (fun q hq=>Below.heap_alloc w2 (.cells #[.int .u32 (o:Int)] 54) q (HOL.out.lt q hq).2)) (w2.heap.size+1) (some ⟨w2.heap.size,0,none⟩) 1 1 (u32s [o]) rfl ⟨rfl,fun _=>⟨_,rfl,by simp,cell_one_new _ _ _⟩⟩ (one_u32 _) (by simp only [maxLen]; omega) (by omega) (by simp; omega) ?_; intro v1 w3 hown3 hgrow3 hat3; obtain⟨A3,c3,rfl⟩:=own_val hown3; have HG3:=Lib.hid (fun q (hq:q<w2.heap.size) (hn:vl.ownBlock≠some q)=>(hgrow3.block q (by simp; omega) (fun e=>hn (by first | exact e | exact e.symm))).trans (Below.heap_alloc w2 (.cells #[.int .u32 (o:Int)] 54) q hq)); have HBX3:=Lib.hid (HBX.out.same (HG3.out gx HBX.out.lt HNL.out)); have hz3:=HBX3.out.frozen 0; have hc3:=HBX3.out.cell 0)
  have HS3:=Lib.hid (show w2.heap.size≤w3.heap.size from Nat.le_trans (by rw [World.size_alloc]; exact Nat.le_succ _) hgrow3.size)
  have HT3:=Lib.hid (show w3.os=w2.os∧w3.tape=w2.tape∧w3.output=w2.output from⟨hgrow3.os,hgrow3.tape,hgrow3.output⟩)
  have HV1:=Lib.hid (show (Value.slice A3 (L.length+1) c3).ownBlock=vl.ownBlock∨∃ q,(Value.slice A3 (L.length+1) c3).ownBlock=some q∧w2.heap.size≤q from by
   rcases hat3 with e | e
   ·exact .inl e
   ·exact .inr ⟨_,e,by simp⟩)
  have HVC:=Lib.hid (own_ne_own HOL.out HOC.out (by decide))
  have hset:∀ q,q≠gx→(w3.setCell ⟨gx,0,none⟩ (.slice A3 (L.length+1) c3)).heap[q]? = w3.heap[q]? :=fun q hq=>Below.heap_setCell w3 ⟨gx,0,none⟩ _ q hq
  have HN1:=Lib.hid (own_ne_blk hown3 HBX3.out (by decide))
  have HOL4:=Lib.hid (own_keep hown3 (fun q hq=>hset q (fun e=>HN1.out (e ▸ hq))))
  have HOC4:=Lib.hid (own_keep HOC.out (w':=w3.setCell ⟨gx,0,none⟩ (.slice A3 (L.length+1) c3)) (fun q hq=>(hset q (fun e=>HNC.out (e ▸ hq))).trans (HG3.out q (HOC.out.lt q hq).2 (fun e=>HVC.out q e hq))))
  have HBX4:=Lib.hid (HBX3.out.set_ 0 (.slice A3 (L.length+1) c3))
  have HG4:=Lib.hid (show ∀ q,q<w2.heap.size→q≠gx→vl.ownBlock≠some q→(w3.setCell ⟨gx,0,none⟩ (.slice A3 (L.length+1) c3)).heap[q]? = w2.heap[q]? from fun q h1 h2 h3=>(hset q h2).trans (HG3.out q h1 h3))
  have HT4:=Lib.hid (show (w3.setCell ⟨gx,0,none⟩ (.slice A3 (L.length+1) c3)).os=w2.os∧(w3.setCell ⟨gx,0,none⟩ (.slice A3 (L.length+1) c3)).tape=w2.tape∧(w3.setCell ⟨gx,0,none⟩ (.slice A3 (L.length+1) c3)).output=w2.output∧w2.heap.size≤(w3.setCell ⟨gx,0,none⟩ (.slice A3 (L.length+1) c3)).heap.size from⟨HT3.out.1,HT3.out.2.1,HT3.out.2.2,by simp [World.setCell]; exact HS3.out⟩)
  clear hown3 hgrow3 hat3 HG3 HBX3 hz3 hc3 hset c0 HS3 HT3 HOC
  generalize w3.setCell ⟨gx,0,none⟩ (.slice A3 (L.length+1) c3)=w4 at *
  have hB4:B≤w4.heap.size:=Nat.le_trans hB2 HT4.out.2.2.2
  have c1:w4.cell? ⟨gx,1,none⟩=some vc:=HBX4.out.cell 1
  obtain⟨Ac,cc,hvc⟩:=own_val HOC4.out
  subst hvc
  have hLl:(L.map (·.2)).length=L.length:=List.length_map _
  go_wp2_with (at_builtin; refine wpList_append_any _ rfl (.tmp 42) (.tmp 44) _ rfl B 3 j0 _ 1 8 Tryz.underlying211 hj0 hy0 hy1 hy2 rfl (by omega) (.slice Ac L.length cc) L.length _ rfl (own_keep HOC4.out (fun q hq=>Below.heap_alloc w4 (.cells #[.int .i64 by_] 3) q (HOC4.out.lt q hq).2)) (w4.heap.size+1) (some ⟨w4.heap.size,0,none⟩) 1 1 (zsK [by_]) rfl ⟨rfl,fun _=>⟨_,rfl,by simp,cell_one_new _ _ _⟩⟩ (one_zsK _) (by simp only [maxLen]; omega) (by omega) (by simp; omega) ?_; intro v5 w5 hown5 hgrow5 hat5; obtain⟨A5,c5,rfl⟩:=own_val hown5; have HG5:=Lib.hid (fun q (hq:q<w4.heap.size) (hn:(Value.slice Ac L.length cc).ownBlock≠some q)=>(hgrow5.block q (by simp; omega) (fun e=>hn (by first | exact e | exact e.symm))).trans (Below.heap_alloc w4 (.cells #[.int .i64 by_] 3) q hq)); have HBX5:=Lib.hid (HBX4.out.same (HG5.out gx HBX4.out.lt (own_ne_blk HOC4.out HBX4.out (by decide)))); have hz5:=HBX5.out.frozen 1; have hc5:=HBX5.out.cell 1)
  have HFIN:=Lib.hid (show RputP B gx gs N vl (.slice Ac L.length cc) (L++[(o,by_)]) w (.returned (.tuple #[])) (w5.setCell ⟨gx,1,none⟩ (.slice A5 (L.length+1) c5)) from by
   have hset:∀ q,q≠gx→(w5.setCell ⟨gx,1,none⟩ (.slice A5 (L.length+1) c5)).heap[q]? = w5.heap[q]? :=fun q hq=>Below.heap_setCell w5 ⟨gx,1,none⟩ _ q hq
   have hs5:w4.heap.size≤w5.heap.size:=Nat.le_trans (by rw [World.size_alloc]; exact Nat.le_succ _) hgrow5.size
   have hs42:w2.heap.size≤w4.heap.size:=HT4.out.2.2.2
   have hs2:w2.heap.size=w.heap.size:=HS2.out.2.2.2.1
   have hgsx:gs≠gx:=HSN.out.ne_blk HBX.out (by decide)
   have hNL:vl.ownBlock≠some gs:=by obtain⟨cur,hb,_⟩:=HSN.out; exact own_ne_blk HOL.out hb (by decide)
   have hsn4:Row w4 gs 4 N (bools (markL (metO L++[o]) N)):=HSN.out.same (HG4.out gs HSN.out.lt hgsx hNL)
   have hNC:(Value.slice Ac L.length cc).ownBlock≠some gs:=by obtain⟨cur,hb,_⟩:=hsn4; exact own_ne_blk HOC4.out hb (by decide)
   have hsame:∀ q,q<w.heap.size→q≠gx→q≠gs→vl.ownBlock≠some q→(Value.slice Ac L.length cc).ownBlock≠some q→(w5.setCell ⟨gx,1,none⟩ (.slice A5 (L.length+1) c5)).heap[q]? = w.heap[q]? :=fun q h1 h2 h3 h4 h5=>
    (hset q h2).trans ((HG5.out q (by omega) h5).trans ((HG4.out q (by omega) h2 h4).trans (HS2.out.2.2.2.2 q h3)))
   have hl5:w5.ownsRow B 54 1 (.slice A3 (L.length+1) c3) (L.length+1) (u32s (metO L)++u32s [o]):=own_keep HOL4.out (fun q hq=>HG5.out q (HOL4.out.lt q hq).2 (fun e=>own_ne_own HOL4.out HOC4.out (by decide) q hq e))
   refine⟨rfl,.slice A3 (L.length+1) c3,.slice A5 (L.length+1) c5,⟨HBX5.out.set_ 1 _,?_,?_,?_,HGM.out.1,HGM.out.2⟩,⟨?_,?_,?_,?_,hsame,?_⟩⟩
   ·rw [metO_snoc,u32s_app,List.length_append]
    exact own_keep hl5 (fun q hq=>hset q (fun e=>own_ne_blk hl5 HBX5.out (by decide) (e ▸ hq)))
   ·rw [List.map_append,zsK_app,List.length_append]
    exact own_keep hown5 (fun q hq=>hset q (fun e=>own_ne_blk hown5 HBX5.out (by decide) (e ▸ hq)))
   ·rw [metO_snoc]
    exact hsn4.same ((hset gs hgsx).trans (HG5.out gs hsn4.lt hNC))
   ·exact hgrow5.os.trans (HT4.out.1.trans HS2.out.1)
   ·exact hgrow5.tape.trans (HT4.out.2.1.trans HS2.out.2.1)
   ·exact hgrow5.output.trans (HT4.out.2.2.1.trans HS2.out.2.2.1)
   ·simp [World.setCell]; omega
   ·intro q h1 h2 h3
    constructor
    ·rcases HV1.out with e | ⟨j,e,hj⟩
     ·rw [e]; exact h2
     ·rw [e]; intro e2; injection e2 with e2; omega
    ·rcases hat5 with e | e
     ·intro e2; exact h3 (e ▸ e2)
     ·intro e2; rw [e] at e2; injection e2 with e2; simp at e2; omega)
  rw [← HF.out] at HFIN
  refine bodyPost_end (v:=.tuple #[]) (by simp [results,Tryz.results291,go_sem]) rfl ?_
  exact HFIN.out
end
section
open Go.RowKit
attribute [local go_sem] Oper.semAt_some
theorem wrK {n:Nat} (h:n≤1048576):wrap64 (n:Int)=(n:Int):=IntWalk.wrap64_in _ (by omega)
theorem wrK3 {n:Nat} (h:n≤1048576):wrap64 ((n:Int)+3)=(n:Int)+3:=IntWalk.wrap64_in _ (by omega)
theorem wrK4 {n:Nat} (h:n≤1048576):wrap64 (3+(n:Int))=3+(n:Int):=IntWalk.wrap64_in _ (by omega)
theorem wrK5 {a n:Nat} (h:a+3+n≤1048576):wrap64 ((a:Int)+(3+(n:Int)))=(a:Int)+(3+(n:Int)):=IntWalk.wrap64_in _ (by omega)
theorem leK {a b:Nat} (h:a+3≤b):decide ((a:Int)+3≤(b:Int))=true:=decide_eq_true (by omega)
theorem measK {a f n:Nat} (h:a+3+f≤n):n+3-((a:Int)+(3+(f:Int))).toNat<n+3-((a:Int)).toNat:=by omega
theorem posK {a f p:Nat} (h:p=a+(3+f)):(a:Int)+(3+(f:Int))=(p:Int):=by omega
theorem ltK {n:Nat}:decide ((n:Int)+3≤(n:Int))=false:=decide_eq_false (by omega)
theorem idxL_len (l:List Ob):(idxL l).length=l.length:=by unfold idxL; simp
theorem idxL_take (l:List Ob) {k:Nat} (hk:k<l.length):(idxL l).take (k+1)=(idxL l).take k++[posOf (l.take k)]:=by
 rw [List.take_add_one,List.getElem?_eq_getElem (by rw [idxL_len]; exact hk)]
 unfold idxL
 simp
section
variable {w:World} {h:HM} {l:List Ob} {A A':Option Addr} {n c n' c':Nat}
def IntsP (xs:List Nat) (w:World) (e:Ending) (w':World):Prop:=
 ∃ v,e = .returned v∧w'.ownsRow w.heap.size 3 1 v xs.length (ints xs)∧Below w.heap.size w w'
set_option maxRecDepth 100000 in
set_option maxHeartbeats 4000000 in
theorem robjects_any (G:h.Good l) (hr:Reads w w.heap.size 1 A n (u32s h.words)):
 Calls Tryz.prog 239 #[StV A n c A' n' c'] w (IntsP (idxL l) w):=by
 have hln:n=h.words.length:=by have:=hr.1; rw [u32s_len] at this; omega
 subst hln
 have hwl:h.words.length≤1048576:=by have:=G.fit.room; have:=G.fit.hi; omega
 have hBX:=(Below.refl w.heap.size w).alloc (Nat.le_refl _) (.cells #[.slice A h.words.length c,.slice A' n' c'] 280)
 have HB:=Lib.hid hBX
 have HX:=Lib.hid (Blk.new w 280 #[.slice A h.words.length c,.slice A' n' c'])
 have HR:=Lib.hid ((hr.below hBX).more hBX.size)
 have HG:=Lib.hid G
 have hl2:l.length≤1048576:=by have h1:=oopsL_le G; rw [oopsL_len] at h1; exact h1
 have HEND:=Lib.hid (show posOf (l.take l.length)=h.words.length by rw [List.take_length,G.laid.words,List.length_cons]; unfold posOf; omega)
 obtain⟨i0,hi0,hz0,hz1,hz2⟩:=info_parts info_intK
 clear hBX hr G
 unfold StV
 go_enter Tryz.func239,Tryz.ntmps239
 go_wp2_with fail
 have hw1:w.heap.size<(w.alloc (.cells #[.slice A h.words.length c,.slice A' n' c'] 280)).heap.size:=by simp
 generalize w.alloc (.cells #[.slice A h.words.length c,.slice A' n' c'] 280)=W1 at *
 go_loopw [3,4] (fun lv iv wr=>∃ k:Nat,k≤l.length∧iv = .int .i64 (posOf (l.take k):Nat)∧wr.ownsRow W1.heap.size 3 1 lv k (ints ((idxL l).take k))∧Below W1.heap.size W1 wr) (fun _ iv _=>h.words.length+3-(intOf iv).toNat)
 case atStart=>exact⟨0,by omega,rfl,⟨rfl,.inl ⟨rfl,rfl⟩⟩,Below.refl _ _⟩
 case round=>
  obtain⟨k,hk,rfl,hown,hb⟩:=hrel
  have HOW:=Lib.hid hown
  have HBR:=Lib.hid hb
  clear hown hb
  have x0:=(HX.out.below HBR.out HX.out.lt).cell 0
  by_cases hlt:k<l.length
  ·obtain⟨h0,h1,-,h3⟩:=w0_parts HG.out hlt
   have hps:posOf (l.take (k+1))=posOf (l.take k)+(3+(l[k]).fs.length):=by
    unfold posOf
    rw [List.take_add_one,List.getElem?_eq_getElem hlt,wsOf_app,List.length_append,Option.toList_some,wsOf_cons,wsOf_nil,List.append_nil,Ob.ws_len]
    omega
   have HPS:=Lib.hid hps
   have HIX:=Lib.hid (idxL_take l hlt)
   have hpl:posOf (l.take k)<h.words.length:=by omega
   obtain⟨ad,u,rfl,hbl,hu,hc1⟩:=HR.out.at_ hpl
   rw [u32s_get hpl,h0] at hu
   injection hu with hu
   subst hu
   have HCW:=Lib.hid (show ∀ w':World,Below W1.heap.size W1 w'→w'.cell? (ad.add (posOf (l.take k)))=some (.int .u32 ((l[k]).x.w0:Int)) from fun w' hb=>(World.cell?_of_block (a:=ad.add (posOf (l.take k))) (by rw [block_of_add]; exact hb.block _ hbl)).trans hc1)
   have hc:=HCW.out wr HBR.out
   clear hc1
   have HM:=Lib.hid (show (((l[k]).x.w0:Int)).tmod 16777216=((l[k]).fs.length:Int) by rw [← h1]; exact (Int.ofNat_tmod _ _).symm)
   have hB1:W1.heap.size≤wr.heap.size:=HBR.out.size
   clear h0 h1 hps
   generalize (idxL l).take k=xs at *
   generalize posOf (l.take k)=at_ at *
   generalize (l[k]).x.w0=w0 at *
   generalize (l[k]).fs.length=fl at *
   have hw3:wrap64 ((at_:Int)+3)=(at_:Int)+3:=wrK3 (Nat.le_trans (Nat.le_of_lt hpl) hwl)
   have hw4:wrap64 (3+(fl:Int))=3+(fl:Int):=wrK4 (Nat.le_trans (Nat.le_trans (Nat.le_add_left _ _) h3) hwl)
   have hw5:wrap64 ((at_:Int)+(3+(fl:Int)))=(at_:Int)+(3+(fl:Int)):=wrK5 (Nat.le_trans h3 hwl)
   have hfl:fl≤1048576:=Nat.le_trans (Nat.le_trans (Nat.le_add_left _ _) h3) hwl
   have hw64:=wrK hfl
   have hd:decide ((at_:Int)+3≤(h.words.length:Int))=true:=leK (Nat.le_trans (Nat.le_add_right _ _) h3)
   have hk2:k≤1048576:=Nat.le_trans hk hl2
   have HLT:=Lib.hid hlt
   have HPL:=Lib.hid hpl
   have HH3:=Lib.hid h3
   clear h3 hpl hbl hfl hlt hk
   go_wp2_with (at_builtin; refine wpList_append_any _ rfl (.tmp 11) (.tmp 13) _ rfl W1.heap.size 3 i0 _ 1 8 Tryz.underlying211 hi0 hz0 hz1 hz2 rfl (by omega) u3 k _ rfl (HOW.out.alloc _) (wr.heap.size+1) (some ⟨wr.heap.size,0,none⟩) 1 1 (ints [at_]) rfl ⟨rfl,fun _=>⟨_,rfl,by simp,cell_one_new _ _ _⟩⟩ (one_intsK _) (by simp only [maxLen]; omega) (by omega) (by simp; omega) ?_; intro v1 w6 hown6 hgrow hat6; have hb6:=below_grown (Nat.le_refl _) (HBR.out.alloc HBR.out.size _) hgrow (fun q hq=>(HOW.out.lt q hq).1); have y0:=(HX.out.below hb6 HX.out.lt).cell 0; have hc6:=HCW.out w6 hb6; have hm:=HM.out; have hpl:=HPL.out)
   go_roundw
   case rel=>exact⟨k+1,HLT.out,by rw [hw5]; exact congrArg (Value.int .i64) (posK HPS.out),by rw [HIX.out,ints_appK]; exact hown6,hb6⟩
   case measure=>rw [hw5]; exact measK HH3.out
  ·obtain rfl:k=l.length:=by omega
   have hE:=HEND.out
   rw [hE]
   rw [List.take_of_length_le (by rw [idxL_len]; exact Nat.le_refl _)] at HOW
   have hw3:=wrK3 hwl
   have hd:=ltK (n:=h.words.length)
   clear hlt hk hE
   go_wp2_with fail
   go_ret
   refine⟨_,rfl,by rw [idxL_len]; exact own_base HOW.out (Nat.le_of_lt hw1),(HB.out.trans (HBR.out.mono (Nat.le_of_lt hw1)))⟩
end
end
section
open Go.RowKit Go.Sort
attribute [local go_sem] Oper.semAt_some
theorem make_bool1 (n:Nat) (hn:n≤1048576) (w:World):
 (Instr.makeSlice 108 (.int .i64 ((n:Int)+1)) (.int .i64 ((n:Int)+1))).run Tryz.prog w = .ok (.slice (some ⟨w.heap.size,0,none⟩) (n+1) (n+1)) (w.alloc (.cells (zcells (.bool false) (n+1)) 4)):=by
 obtain⟨i0,hi0,hz0,hz1,hz2⟩:=info_parts info_bool
 have:=run_make_rowN (P:=Tryz.prog) 108 4 i0 _ Tryz.underlying108 hi0 hz0 .i64 .i64 (n+1) (n+1) (Nat.le_refl _) (by rw [hz2]; omega) (by omega) w
 have e:madeCells (Value.bool false).cells ((n+1)*1)=zcells (.bool false) (n+1):=by
  apply Array.ext
  ·simp [madeCells,zcells,Value.cells]
  ·intro i h1 h2
   simp [madeCells,zcells,Value.cells,Nat.mod_one]
 rw [hz1,e] at this
 rw [show ((n:Int)+1)=((n+1:Nat):Int) by omega]
 exact this
def RWalkP (h:HM) (fr:List Nat) (w:World) (e:Ending) (w':World):Prop:=
 ∃ vl vc,e = .returned (.tuple #[vl,vc])∧w'.ownsRow w.heap.size 54 1 vl (walkM (heldM h) fr).length (u32s (metO (walkM (heldM h) fr)))∧w'.ownsRow w.heap.size 3 1 vc (walkM (heldM h) fr).length (zsK ((walkM (heldM h) fr).map (·.2)))∧Below w.heap.size w w'
theorem wrU {q:Nat} (h:q≤1048576):IntKind.u32.wrap (q:Int)=(q:Int):=IntWalk.u32_in _ (by omega)
theorem wrI {q:Nat} (h:q≤1048576):IntKind.i64.wrap (q:Int)=(q:Int):=IntWalk.i64_in _ (by omega)
theorem tdiv2q (q:Nat):((2*q:Nat):Int).tdiv 2=(q:Int):=by rw [Int.tdiv_eq_ediv_of_nonneg (by omega)]; omega
theorem div2q (q:Nat):((2*q:Nat):Int) / 2=(q:Int):=by omega
theorem putsW_len (l:Wk) (os:List Nat) (b:Int):(putsW l os b).length≤l.length+os.length:=by
 induction os generalizing l with
 | nil=>simp [putsW]
 | cons a q ih=>
   rw [putsW_cons]
   have h1:=ih (l:=putW l a b)
   have h2:(putW l a b).length≤l.length+1:=by unfold putW; split <;> simp
   simp only [List.length_cons]
   omega
theorem putsW_take (l:Wk) (os:List Nat) (b:Int) {k:Nat} (hk:k<os.length):putsW l (os.take (k+1)) b=putW (putsW l (os.take k) b) (os.getD k 0) b:=by
 rw [List.take_add_one,List.getElem?_eq_getElem hk,List.getD_eq_getElem?_getD,List.getElem?_eq_getElem hk]
 exact putsW_snoc _ _ _ _
section
variable {h:HM} {l:List Ob}
theorem isB_half (G:h.Good l) {o:Nat} (hi:h.isB o=true):o / 2<h.words.length+1:=by
 obtain⟨a,b,c,rfl,rfl⟩:=(G.laid.isB_iff o).1 hi
 have:=G.laid.words_len
 omega
theorem isB_k (G:h.Good l) {o:Nat} (hi:h.isB o=true):∃ k,∃ hk:k<l.length,o=2*posOf (l.take k):=by
 have hm:=isB_mem G hi
 unfold oopsL at hm
 obtain⟨k,hk,rfl⟩:=List.mem_map.1 hm
 exact⟨k,List.mem_range.1 hk,rfl⟩
theorem valB_isB {o:Nat} (hv:h.valB o=true) (hk:kindM o=2):h.isB o=true:=by
 unfold HM.valB objB at hv
 simpa [hk] using hv
end
section
variable {h:HM} {l:List Ob}
theorem held_len (G:h.Good l) {k:Nat} (hk:k<l.length):(heldM h (2*posOf (l.take k))).length=holdN (posOf (l.take k)) l[k]:=by
 rw [← num_held G hk,List.length_map,List.length_take]
 exact Nat.min_eq_left (holdN_le _ _)
theorem held_at (G:h.Good l) {k:Nat} (hk:k<l.length) {j:Nat} (hj:j<(heldM h (2*posOf (l.take k))).length):
 ∃ x,(nmsK (posOf (l.take k)) l[k])[j]? = some x∧x<h.words.length∧h.words.getD x 0=(heldM h (2*posOf (l.take k))).getD j 0:=by
 have hl:=held_len G hk
 have hle:=holdN_le (posOf (l.take k)) l[k]
 have hjn:j<(nmsK (posOf (l.take k)) l[k]).length:=by omega
 refine⟨(nmsK (posOf (l.take k)) l[k])[j],List.getElem?_eq_getElem hjn,?_,?_⟩
 ·have h1:=(nmsK_get (List.getElem?_eq_getElem hjn)).2.1
  have h2:=(w0_parts G hk).2.2.2
  omega
 ·have h0:=num_held G hk
  rw [List.getD_eq_getElem?_getD (l:=heldM h (2*posOf (l.take k))),← h0,List.getElem?_map,List.getElem?_take_of_lt (by omega),List.getElem?_eq_getElem hjn]
  rfl
theorem held_isB (G:h.Good l) {k:Nat} (hk:k<l.length) {x:Nat} (hx:x∈heldM h (2*posOf (l.take k))):x<4294967296∧(kindM x=2→h.isB x=true):=by
 have hi:h.isB (2*posOf (l.take k))=true:=(G.laid.isB_iff _).2 ⟨l.take k,l[k],l.drop (k+1),split_at l k hk,rfl⟩
 exact⟨names_32 G hi x (held_names hx),fun h2=>names_isB G hi (held_names hx) h2⟩
theorem getD_mem' {xs:List Nat} {j:Nat} (hj:j<xs.length):xs.getD j 0∈xs:=by
 rw [List.getD_eq_getElem?_getD,List.getElem?_eq_getElem hj]; exact List.getElem_mem _
theorem ints_atK {xs:List Nat} {j x:Nat} (h:xs[j]? = some x):(ints xs)[j]? = some (.int .i64 (x:Int)):=by
 unfold ints; rw [List.getElem?_map,h]; rfl
end
section
variable {w:World} {h:HM} {l:List Ob} {A A' Af:Option Addr} {n c n' c' nf cf:Nat}
set_option maxRecDepth 100000 in
set_option maxHeartbeats 8000000 in
theorem rwalk_any (G:h.Good l) (hr:Reads w w.heap.size 1 A n (u32s h.words)) {fr:List Nat} (hf:Reads w w.heap.size 1 Af fr.length (u32s fr)) (hv:∀ x∈fr,h.valB x=true) (h32:∀ x∈fr,x<4294967296) (hfl:fr.length≤1048576):
 Calls Tryz.prog 286 #[StV A n c A' n' c',.slice Af fr.length cf] w (RWalkP h fr w):=by
 have hln:n=h.words.length:=by have:=hr.1; rw [u32s_len] at this; omega
 subst hln
 have hwl:h.words.length≤1048576:=by have:=G.fit.room; have:=G.fit.hi; omega
 have HG:=Lib.hid G
 have HV:=Lib.hid (fun x hx=>And.intro (hv x hx) (h32 x hx))
 have HRW:=Lib.hid (fun (w':World) (hb:Below w.heap.size w w')=>(hr.below hb).more hb.size)
 have HRF:=Lib.hid (fun (w':World) (hb:Below w.heap.size w w')=>hf.below hb)
 have hb1:Below w.heap.size w (((w.alloc (.cells #[.slice A h.words.length c,.slice A' n' c'] 280)).alloc (.cells (zcells (.bool false) (h.words.length+1)) 4)).alloc (.cells #[.slice none 0 0,.slice none 0 0,.slice (some ⟨w.heap.size+1,0,none⟩) (h.words.length+1) (h.words.length+1)] 383)):=
  (((Below.refl w.heap.size w).alloc (Nat.le_refl _) _).alloc (by simp) _).alloc (by simp; omega) _
 have S0:=((Blk.new w 280 #[.slice A h.words.length c,.slice A' n' c']).alloc (.cells (zcells (.bool false) (h.words.length+1)) 4)).alloc (.cells #[.slice none 0 0,.slice none 0 0,.slice (some ⟨w.heap.size+1,0,none⟩) (h.words.length+1) (h.words.length+1)] 383)
 have K0:WkAt (((w.alloc (.cells #[.slice A h.words.length c,.slice A' n' c'] 280)).alloc (.cells (zcells (.bool false) (h.words.length+1)) 4)).alloc (.cells #[.slice none 0 0,.slice none 0 0,.slice (some ⟨w.heap.size+1,0,none⟩) (h.words.length+1) (h.words.length+1)] 383)) w.heap.size (w.heap.size+1+1) (w.heap.size+1) (h.words.length+1) (.slice none 0 0) (.slice none 0 0) []:=by
  refine⟨?_,⟨rfl,.inl ⟨rfl,rfl⟩⟩,⟨rfl,.inl ⟨rfl,rfl⟩⟩,?_,by omega,by omega⟩
  ·have:=Blk.new ((w.alloc (.cells #[.slice A h.words.length c,.slice A' n' c'] 280)).alloc (.cells (zcells (.bool false) (h.words.length+1)) 4)) 383 #[.slice none 0 0,.slice none 0 0,.slice (some ⟨w.heap.size+1,0,none⟩) (h.words.length+1) (h.words.length+1)]
   simpa using this
  ·have:=(falses_row (w.alloc (.cells #[.slice A h.words.length c,.slice A' n' c'] 280)) (h.words.length+1) (by simp only [maxLen]; omega)).alloc (.cells #[.slice none 0 0,.slice none 0 0,.slice (some ⟨w.heap.size+1,0,none⟩) (h.words.length+1) (h.words.length+1)] 383)
   rw [show metO ([]:Wk)=[] from rfl,markL_nil]
   simpa using this
 have hmk:=make_bool1 h.words.length hwl
 have HB1:=Lib.hid hb1
 have HS1:=Lib.hid S0
 have HK1:=Lib.hid K0
 clear hb1 S0 K0 hr hf hv h32 G
 unfold StV
 go_enter Tryz.func286,Tryz.ntmps286
 have x0:=(Blk.new w 280 #[.slice A h.words.length c,.slice A' n' c']).cell 0
 go_wp2_with fail
 clear hmk x0
 generalize (((w.alloc (.cells #[.slice A h.words.length c,.slice A' n' c'] 280)).alloc (.cells (zcells (.bool false) (h.words.length+1)) 4)).alloc (.cells #[.slice none 0 0,.slice none 0 0,.slice (some ⟨w.heap.size+1,0,none⟩) (h.words.length+1) (h.words.length+1)] 383))=W1 at *
 go_loopw [23] (fun iv wr=>∃ (k:Nat) (vl vc:Value),iv = .int .i64 k∧k≤fr.length∧WkAt wr w.heap.size (w.heap.size+1+1) (w.heap.size+1) (h.words.length+1) vl vc (putsW [] (fr.take k) (-1))∧Blk wr w.heap.size 280 #[.slice A h.words.length c,.slice A' n' c']∧Below w.heap.size w wr) (fun iv _=>fr.length-(intOf iv).toNat)
 case atStart=>exact⟨0,_,_,rfl,by omega,HK1.out,HS1.out,HB1.out⟩
 case round=>
  clear HK1 HS1 HB1
  obtain⟨k,vl,vc,rfl,hk,hkk,hs,hb⟩:=hrel
  have HK:=Lib.hid hkk
  have HS:=Lib.hid hs
  have HB:=Lib.hid hb
  clear hkk hs hb
  by_cases hlt:k<fr.length
  ·obtain⟨ad,u,rfl,_,hu,hc⟩:=(HRF.out wr HB.out).at_ hlt
   rw [u32s_get hlt] at hu
   injection hu with hu
   subst hu
   have hmem:fr.getD k 0∈fr:=by rw [List.getD_eq_getElem?_getD,List.getElem?_eq_getElem hlt]; exact List.getElem_mem _
   have hvx:=HV.out _ hmem
   have HPT:=Lib.hid (krput_any HK.out HB.out.size hvx.2 (fun hk2=>isB_half HG.out (valB_isB hvx.1 hk2)) (-1) (by have:=putsW_len [] (fr.take k) (-1); rw [List.length_take] at this; simp at this; omega))
   rw [← putsW_take _ _ _ hlt] at HPT
   have HLT:=Lib.hid hlt
   clear hvx hmem
   generalize fr.getD k 0=x at *
   go_wp2_with fail
   refine HPT.out.mono ?_
   rintro e w5 ⟨rfl,vl',vc',hk5,hf5⟩
   have HK5:=Lib.hid hk5
   have HB5:=Lib.hid (HB.out.trans (hf5.below HK.out HB.out.size))
   have HS5:=Lib.hid (HS.out.same (hf5.same _ HS.out.lt (by omega) (by omega) (own_ne_blk HK.out.list HS.out (by decide)) (own_ne_blk HK.out.came HS.out (by decide))))
   clear hk5 hf5 HPT HK HS HB hc
   go_wp2_with fail
   go_roundw
   case rel=>exact⟨k+1,vl',vc',by go_num,HLT.out,HK5.out,HS5.out,HB5.out⟩
   case measure=>have:=HLT.out; simp [intOf]; omega
  ·obtain rfl:k=fr.length:=by omega
   rw [List.take_length] at HK
   clear hlt hk
   go_wp2_with fail
   have HGO:=Lib.hid (GoW.start (heldM h) fr)
   have HIS:=Lib.hid (show ∀ o∈metO (putsW [] fr (-1)),h.isB o=true from putsW_isB (fun o ho=>by simp [metO] at ho) (fun x hx hk=>valB_isB (HV.out x hx).1 hk))
   generalize putsW [] fr (-1)=L0 at *
   go_loopw [9] (fun iv wr=>∃ (i:Nat) (L:Wk) (vl vc:Value),iv = .int .i64 i∧GoW (heldM h) fr i L∧(∀ o∈metO L,h.isB o=true)∧WkAt wr w.heap.size (w.heap.size+1+1) (w.heap.size+1) (h.words.length+1) vl vc L∧Blk wr w.heap.size 280 #[.slice A h.words.length c,.slice A' n' c']∧Below w.heap.size w wr) (fun iv _=>4194304-(intOf iv).toNat)
   case atStart=>exact⟨0,L0,vl,vc,rfl,HGO.out,HIS.out,HK.out,HS.out,HB.out⟩
   case round=>
    clear HK HS HB HGO HIS HV HRF
    obtain⟨i,L,vl,vc,rfl,hgo,his,hkk,hs,hb⟩:=hrel
    have HK:=Lib.hid hkk
    have HS:=Lib.hid hs
    have HB:=Lib.hid hb
    have HGO:=Lib.hid hgo
    have HIS:=Lib.hid his
    clear hkk hs hb hgo his
    have HLN:=Lib.hid (wk_len HG.out HGO.out.nodup HIS.out)
    have c0:=HK.out.box.cell 0
    by_cases hi:i<L.length
    ·obtain⟨gv,cv,hvv,hrv,_,hgv⟩:=Row.of_any HK.out.list (by omega)
     subst hvv
     have hcl:=hrv.cell (u32s_get (l:=metO L) (i:=i) (by rw [metO_len]; exact hi))
     have HNX:=Lib.hid (HGO.out.next hi HLN.out)
     rw [← metO_getD] at HNX
     obtain⟨k,hk,ho⟩:=isB_k HG.out (HIS.out _ (metO_mem hi))
     rw [ho] at hcl HNX
     have HNM:=Lib.hid (fun (w':World) (hb:Below w.heap.size w w')=>rnames_any (A':=A') (n':=n') (c':=c') (c:=c) HG.out (HRW.out w' hb) hk)
     have HHL:=Lib.hid (held_len HG.out hk)
     have HHA:=Lib.hid (fun j hj=>held_at HG.out hk (j:=j) hj)
     have HHB:=Lib.hid (fun x hx=>held_isB HG.out hk (x:=x) hx)
     have hp1:=posOf_take_le l k
     have hp2:posOf (l.take k)≤1048576:=by
      have:=(w0_parts HG.out hk).2.2.2
      omega
     have hNL:(nmsK (posOf (l.take k)) l[k]).length≤1048576:=by
      have h1:=nmsK_len (posOf (l.take k)) l[k]
      have h2:=(w0_parts HG.out hk).2.2.2
      omega
     have hN0:=nmsK_pos (posOf (l.take k)) l[k]
     have hHN:=holdN_le (posOf (l.take k)) l[k]
     generalize posOf (l.take k)=q at *
     generalize l[k]=b at *
     have hq:=tdiv2q q
     have hq2:=div2q q
     have hwq:=wrK hp2
     have hwu:=wrU hp2
     have hwi:=wrI hp2
     generalize hoo:2*q=o at *
     unfold RNamP StV at HNM
     generalize heldM h o=hl at *
     generalize nmsK q b=nl at *
     generalize holdN q b=hn at *
     have HIN:=Lib.hid hi
     have s0:=HS.out.cell 0
     have s1:=HS.out.cell 1
     clear ho hk hp1 hp2 hrv
     go_upto_region 10 with fail
     refine wp_region_U 15 (fun w'=>w'.cell? ⟨w.heap.size,0,none⟩=some (.slice A h.words.length c)∧w'.cell? ⟨w.heap.size,1,none⟩=some (.slice A' n' c')∧w'.cell? ⟨w.heap.size+1+1,0,none⟩=some (.slice (some ⟨gv,0,none⟩) L.length cv)∧w'.cell? ⟨gv,i,none⟩=some (.int .u32 (o:Int))) (by kernel_rfl) ?_
     have hbd:Below wr.heap.size wr wr.drew:=below_drew (Below.refl _ _)
     have hS:wr.drew.cell? ⟨w.heap.size,0,none⟩=some (.slice A h.words.length c)∧wr.drew.cell? ⟨w.heap.size,1,none⟩=some (.slice A' n' c')∧wr.drew.cell? ⟨w.heap.size+1+1,0,none⟩=some (.slice (some ⟨gv,0,none⟩) L.length cv)∧wr.drew.cell? ⟨gv,i,none⟩=some (.int .u32 (o:Int)):=⟨s0,s1,c0,hcl⟩
     have HKd:=Lib.hid (HK.out.below hbd)
     have HSd:=Lib.hid (HS.out.below hbd HS.out.lt)
     have HBd:=Lib.hid (below_top HB.out hbd)
     have HNd:=Lib.hid (HNM.out wr.drew HBd.out)
     clear hbd HK HS HB HNM s0 s1 c0 hcl
     generalize wr.drew=Wq at *
     refine U_read 0 (v:=(.agg #[.slice A h.words.length c,.slice A' n' c'])) rfl (by kernel_rfl) (fun _ _ _ h=>h) hS (by rfl) (fun w' hw'=>by obtain⟨h0,h1,h2,h3⟩:=hw'; go_simp) ?_
     try simp only [Act.put,List.setIfInBounds_toArray,List.set_cons_zero,List.set_cons_succ]
     refine U_read 1 (v:=(.pointer (some ⟨w.heap.size+1+1,0,none⟩))) rfl (by kernel_rfl) (fun _ _ _ h=>h) hS (by rfl) (fun w' hw'=>by obtain⟨h0,h1,h2,h3⟩:=hw'; go_simp) ?_
     try simp only [Act.put,List.setIfInBounds_toArray,List.set_cons_zero,List.set_cons_succ]
     refine U_read 2 (v:=(.pointer (some ⟨w.heap.size+1+1,0,none⟩))) rfl (by kernel_rfl) (fun _ _ _ h=>h) hS (by rfl) (fun w' hw'=>by obtain⟨h0,h1,h2,h3⟩:=hw'; go_simp) ?_
     try simp only [Act.put,List.setIfInBounds_toArray,List.set_cons_zero,List.set_cons_succ]
     refine U_read 3 (v:=(.pointer (some ⟨w.heap.size+1+1,0,none⟩))) rfl (by kernel_rfl) (fun _ _ _ h=>h) hS (by rfl) (fun w' hw'=>by obtain⟨h0,h1,h2,h3⟩:=hw'; go_simp) ?_
     try simp only [Act.put,List.setIfInBounds_toArray,List.set_cons_zero,List.set_cons_succ]
     refine U_read 4 (v:=(.slice (some ⟨gv,0,none⟩) L.length cv)) rfl (by kernel_rfl) (fun _ _ _ h=>h) hS (by rfl) (fun w' hw'=>by obtain⟨h0,h1,h2,h3⟩:=hw'; go_simp) ?_
     try simp only [Act.put,List.setIfInBounds_toArray,List.set_cons_zero,List.set_cons_succ]
     refine U_read 5 (v:=(.int .i64 (i:Int))) rfl (by kernel_rfl) (fun _ _ _ h=>h) hS (by rfl) (fun w' hw'=>by obtain⟨h0,h1,h2,h3⟩:=hw'; go_simp) ?_
     try simp only [Act.put,List.setIfInBounds_toArray,List.set_cons_zero,List.set_cons_succ]
     refine U_read 6 (v:=(.pointer (some ⟨gv,i,none⟩))) rfl (by kernel_rfl) (fun _ _ _ h=>h) hS (by rfl) (fun w' hw'=>by obtain⟨h0,h1,h2,h3⟩:=hw'; go_simp) ?_
     try simp only [Act.put,List.setIfInBounds_toArray,List.set_cons_zero,List.set_cons_succ]
     refine U_read 7 (v:=(.int .u32 (o:Int))) rfl (by kernel_rfl) (fun _ _ _ h=>h) hS (by rfl) (fun w' hw'=>by obtain⟨h0,h1,h2,h3⟩:=hw'; go_simp) ?_
     try simp only [Act.put,List.setIfInBounds_toArray,List.set_cons_zero,List.set_cons_succ]
     refine U_read 8 (v:=(.int .u32 (q:Int))) rfl (by kernel_rfl) (fun _ _ _ h=>h) hS (by rfl) (fun w' hw'=>by obtain⟨h0,h1,h2,h3⟩:=hw'; go_simp) ?_
     try simp only [Act.put,List.setIfInBounds_toArray,List.set_cons_zero,List.set_cons_succ]
     refine U_read 9 (v:=(.int .i64 (q:Int))) rfl (by kernel_rfl) (fun _ _ _ h=>h) hS (by rfl) (fun w' hw'=>by obtain⟨h0,h1,h2,h3⟩:=hw'; go_simp) ?_
     try simp only [Act.put,List.setIfInBounds_toArray,List.set_cons_zero,List.set_cons_succ]
     refine U_one 10 (by kernel_rfl) rfl rfl (fun K hK=>?_)
     go_simp
     refine HNd.out.mono ?_
     rintro e W5 ⟨v5,rfl,hown5,hb5⟩
     obtain⟨g5,c5,rfl,hr5,_,hg5⟩:=Row.of_any hown5 hN0
     have HR5:=Lib.hid hr5
     have HK5:=Lib.hid (HKd.out.below hb5)
     have HS5:=Lib.hid (HSd.out.below hb5 HSd.out.lt)
     have HB5:=Lib.hid (below_top HBd.out hb5)
     have HN5:=Lib.hid (show (Value.slice (some ⟨gv,0,none⟩) L.length cv).ownBlock≠some g5∧vc.ownBlock≠some g5 from⟨fun e=>by have:=(HKd.out.list.lt g5 e).2; omega,fun e=>by have:=(HKd.out.came.lt g5 e).2; omega⟩)
     have hS5:W5.cell? ⟨w.heap.size,0,none⟩=some (.slice A h.words.length c)∧W5.cell? ⟨w.heap.size,1,none⟩=some (.slice A' n' c')∧W5.cell? ⟨w.heap.size+1+1,0,none⟩=some (.slice (some ⟨gv,0,none⟩) L.length cv)∧W5.cell? ⟨gv,i,none⟩=some (.int .u32 (o:Int)):=⟨HS5.out.cell 0,HS5.out.cell 1,HK5.out.box.cell 0,(hb5.cell (p:=⟨gv,i,none⟩) (HKd.out.list.lt gv rfl).2).trans hS.2.2.2⟩
     clear hown5 hb5 hr5 HNd HKd HSd HBd hS hg5
     refine hK _ _ (fun _=>hS5) ?_
     clear hK K
     try simp only [Act.put,List.setIfInBounds_toArray,List.set_cons_zero,List.set_cons_succ]
     have hS:=hS5
     refine U_read 11 (v:=(.tuple #[.slice (some ⟨g5,0,none⟩) nl.length c5,.int .i64 (hn:Int)])) rfl (by kernel_rfl) (fun _ _ _ h=>h) hS (by rfl) (fun w' hw'=>by obtain⟨h0,h1,h2,h3⟩:=hw'; go_simp) ?_
     try simp only [Act.put,List.setIfInBounds_toArray,List.set_cons_zero,List.set_cons_succ]
     refine U_read 12 (v:=(.slice (some ⟨g5,0,none⟩) nl.length c5)) rfl (by kernel_rfl) (fun _ _ _ h=>h) hS (by rfl) (fun w' hw'=>by obtain⟨h0,h1,h2,h3⟩:=hw'; go_simp) ?_
     try simp only [Act.put,List.setIfInBounds_toArray,List.set_cons_zero,List.set_cons_succ]
     refine U_read 13 (v:=(.int .i64 (hn:Int))) rfl (by kernel_rfl) (fun _ _ _ h=>h) hS (by rfl) (fun w' hw'=>by obtain⟨h0,h1,h2,h3⟩:=hw'; go_simp) ?_
     try simp only [Act.put,List.setIfInBounds_toArray,List.set_cons_zero,List.set_cons_succ]
     refine U_read 14 (v:=(.slice (some ⟨g5,0,none⟩) nl.length c5)) rfl (by kernel_rfl) (fun _ _ _ h=>h) hS (by rfl) (fun w' hw'=>by obtain⟨h0,h1,h2,h3⟩:=hw'; go_simp) ?_
     try simp only [Act.put,List.setIfInBounds_toArray,List.set_cons_zero,List.set_cons_succ]
     refine U_one 15 (by kernel_rfl) rfl rfl (fun K hK=>?_)
     go_simp
     refine hK _ _ (fun h=>absurd h (by decide)) ?_
     clear hK K
     try simp only [Act.put,List.setIfInBounds_toArray,List.set_cons_zero,List.set_cons_succ]
     refine U_done (by kernel_rfl) ?_ _
     simp only [Calm,Exit.then]
     have hcap:nl.length≤c5:=by have:=HR5.out.len_le; unfold ints at this; rw [List.length_map] at this; exact this
     have hcap2:hn≤c5:=Nat.le_trans hHN hcap
     have hcap3:c5≤9223372036854775807:=by obtain⟨_,_,_,hm,_⟩:=HR5.out; simp only [maxLen] at hm; omega
     have hn63:hn≤1048576:=Nat.le_trans hHN hNL
     have HHN:=Lib.hid hHN
     clear hS hS5 hcap hq hq2 hwq hwu hwi hHN
     go_wp2_with fail
     go_loopw [58] (fun jv wr2=>∃ (j:Nat) (vl' vc':Value),jv = .int .i64 j∧j≤hn∧WkAt wr2 w.heap.size (w.heap.size+1+1) (w.heap.size+1) (h.words.length+1) vl' vc' (putsW L (hl.take j) (i:Int))∧Blk wr2 w.heap.size 280 #[.slice A h.words.length c,.slice A' n' c']∧Row wr2 g5 3 c5 (ints nl)∧(vl'.ownBlock≠some g5∧vc'.ownBlock≠some g5)∧Below w.heap.size w wr2) (fun jv _=>hn-(intOf jv).toNat)
     case atStart=>exact⟨0,_,_,rfl,Nat.zero_le _,HK5.out,HS5.out,HR5.out,HN5.out,HB5.out⟩
     case round=>
      clear HK5 HS5 HR5 HN5 HB5
      obtain⟨j,vl',vc',rfl,hj,hkk,hs,hrr,hnn,hb⟩:=hrel
      have HK:=Lib.hid hkk
      have HS:=Lib.hid hs
      have HR:=Lib.hid hrr
      have HN:=Lib.hid hnn
      have HB:=Lib.hid hb
      clear hkk hs hrr hnn hb
      by_cases hlt:j<hn
      ·obtain⟨x,hx1,hx2,hx3⟩:=HHA.out j (by rw [HHL.out]; exact hlt)
       have hjl:j<hl.length:=by rw [HHL.out]; exact hlt
       have hnc:=HR.out.cell (ints_atK hx1)
       obtain⟨ad,u,had,_,hu,hc⟩:=(HRW.out wr HB.out).at_ hx2
       rw [u32s_get hx2,hx3] at hu
       injection hu with hu
       subst hu
       have hvx:=HHB.out _ (getD_mem' hjl)
       have HPT:=Lib.hid (krput_any HK.out HB.out.size hvx.1 (fun hk2=>isB_half HG.out (hvx.2 hk2)) (i:Int) (by
        have h1:=putsW_len L (hl.take j) (i:Int)
        rw [List.length_take] at h1
        have h2:=HLN.out
        omega))
       rw [← putsW_take _ _ _ hjl] at HPT
       have x0:=HS.out.cell 0
       have HLT:=Lib.hid hlt
       have hx20:x≤1048576:=by omega
       clear hvx hx1 hx3 hjl
       generalize hl.getD j 0=y at *
       subst had
       go_wp2_with fail
       refine HPT.out.mono ?_
       rintro e w7 ⟨rfl,vl7,vc7,hk7,hf7⟩
       have HK7:=Lib.hid hk7
       have HB7:=Lib.hid (HB.out.trans (hf7.below HK.out HB.out.size))
       have HS7:=Lib.hid (HS.out.same (hf7.same _ HS.out.lt (by omega) (by omega) (own_ne_blk HK.out.list HS.out (by decide)) (own_ne_blk HK.out.came HS.out (by decide))))
       have HR7:=Lib.hid (HR.out.same (hf7.same _ HR.out.lt (HR.out.ne_blk HK.out.box (by decide)) (HR.out.ne_ HK.out.seen (by decide)) HN.out.1 HN.out.2))
       have HN7:=Lib.hid (hf7.blk _ HR.out.lt HN.out.1 HN.out.2)
       clear hk7 hf7 HPT HK HS HB HR HN hc hnc x0
       go_wp2_with fail
       go_roundw
       case rel=>exact⟨j+1,vl7,vc7,by go_num,HLT.out,HK7.out,HS7.out,HR7.out,HN7.out,HB7.out⟩
       case measure=>have:=HLT.out; simp [intOf]; omega
      ·obtain rfl:j=hn:=by omega
       rw [List.take_of_length_le (by rw [HHL.out]; exact Nat.le_refl _)] at HK
       have HIS7:=Lib.hid (putsW_isB (b:=(i:Int)) HIS.out (fun x hx hk=>(HHB.out x hx).2 hk))
       have hLi:=HLN.out
       have HIL:=Lib.hid HIN.out
       clear hlt hj
       go_wp2_with fail
       go_roundw
       case rel=>exact⟨i+1,_,_,_,by go_num,HNX.out,HIS7.out,HK.out,HS.out,HB.out⟩
       case measure=>have:=HIL.out; simp [intOf]; omega
    ·have HD:=Lib.hid (HGO.out.done hi HLN.out)
     have c1:=HK.out.box.cell 1
     obtain⟨Al,cl,hvl⟩:=own_val HK.out.list
     subst hvl
     obtain⟨Ac,cc,hvc⟩:=own_val HK.out.came
     subst hvc
     go_upto_region 16 with fail
     go_quiet (fail)
     have hbq:=below_drewN (Below.refl wr.heap.size wr) nq
     have HKq:=Lib.hid (HK.out.below hbq)
     have HBq:=Lib.hid (below_top HB.out hbq)
     clear hbq c0 c1 HK HB HS
     go_wp2_with fail
     go_ret2
     exact⟨_,_,rfl,by rw [HD.out]; exact HKq.out.list,by rw [HD.out]; exact HKq.out.came,HBq.out⟩
end
end
section
open Go.RowKit Go.Sort
attribute [local go_sem] Oper.semAt_some
def livK (W:List Nat) (l:List Ob) (k:Nat):List Nat:=(((idxL l).take k).filter (fun i=>decide (2*i∈W))).map (2 * ·)
theorem livK_yes {W:List Nat} {l:List Ob} {k:Nat} (hk:k<l.length) (h:2*posOf (l.take k)∈W):livK W l (k+1)=livK W l k++[2*posOf (l.take k)]:=by
 unfold livK
 rw [idxL_take l hk,List.filter_append,List.map_append,List.filter_cons,if_pos (by simpa using h)]
 rfl
theorem livK_no {W:List Nat} {l:List Ob} {k:Nat} (hk:k<l.length) (h:¬ 2*posOf (l.take k)∈W):livK W l (k+1)=livK W l k:=by
 unfold livK
 rw [idxL_take l hk,List.filter_append,List.map_append,List.filter_cons,if_neg (by simpa using h)]
 simp
theorem livK_len (W:List Nat) (l:List Ob) (k:Nat):(livK W l k).length≤k:=by
 unfold livK
 rw [List.length_map]
 have h1:=List.length_filter_le (fun i=>decide (2*i∈W)) ((idxL l).take k)
 have h2:=List.length_take_le k (idxL l)
 omega
theorem livK_all (h:HM) (l:List Ob):livK (metO (walkM (heldM h) h.roots)) l l.length=liveO h l:=by
 unfold livK liveO
 rw [List.take_of_length_le (by rw [idxL_len]; exact Nat.le_refl _)]
 have e:oopsL l=(idxL l).map (2 * ·):=by unfold oopsL idxL; rw [List.map_map]; rfl
 rw [e,List.filter_map]
 rfl
theorem idxL_get {l:List Ob} {k:Nat} (hk:k<l.length):(idxL l)[k]? = some (posOf (l.take k)):=by
 unfold idxL
 rw [List.getElem?_map,List.getElem?_range hk]
 rfl
theorem wrM2 {q:Nat} (h:q≤1048576):wrap64 (2*(q:Int))=2*(q:Int):=IntWalk.wrap64_in _ (by omega)
theorem wrU2 {q:Nat} (h:q≤1048576):IntKind.u32.wrap (2*(q:Int))=2*(q:Int):=IntWalk.u32_in _ (by omega)
section
variable {w:World} {h:HM} {l:List Ob} {A A':Option Addr} {n c n' c':Nat}
set_option maxRecDepth 100000 in
set_option maxHeartbeats 8000000 in
theorem rlive_any (G:h.Good l) (hr:Reads w w.heap.size 1 A n (u32s h.words)) (hq:Reads w w.heap.size 1 A' n' (u32s h.roots)):
 Calls Tryz.prog 270 #[StV A n c A' n' c'] w (OopsP (liveO h l) w):=by
 have hln:n=h.words.length:=by have:=hr.1; rw [u32s_len] at this; omega
 have hln':n'=h.roots.length:=by have:=hq.1; rw [u32s_len] at this; omega
 subst hln hln'
 have hwl:h.words.length≤1048576:=by have:=G.fit.room; have:=G.fit.hi; omega
 have hl2:l.length≤1048576:=by have h1:=oopsL_le G; rw [oopsL_len] at h1; exact h1
 have HG:=Lib.hid G
 have hX:=Blk.new w 280 #[.slice A h.words.length c,.slice A' h.roots.length c']
 have hB:=(Below.refl w.heap.size w).alloc (Nat.le_refl _) (.cells #[.slice A h.words.length c,.slice A' h.roots.length c'] 280)
 have HRW:=Lib.hid (fun (w':World) (hb:Below w.heap.size w w')=>(hr.below hb).more hb.size)
 have HWK:=Lib.hid (rwalk_any (A':=A') (n':=h.roots.length) (c':=c') (c:=c) (cf:=c') G ((hr.below hB).more hB.size) ((hq.below hB).more hB.size) G.sound.roots G.fit.r32 (by have:=G.fit.roots; omega))
 have hMl:=walk_len G G.sound.roots
 have HMB:=Lib.hid (walk_isB G G.sound.roots)
 have HLA:=Lib.hid (livK_all h l)
 have hmk:=make_bool1 h.words.length hwl
 have x0:=hX.cell 0
 have x1:=hX.cell 1
 have HX:=Lib.hid hX
 have HB:=Lib.hid hB
 have hsz:=World.size_alloc w (.cells #[.slice A h.words.length c,.slice A' h.roots.length c'] 280)
 clear hX hB hr hq G
 unfold StV at HWK ⊢
 unfold RWalkP at HWK
 generalize walkM (heldM h) h.roots=M at *
 go_enter Tryz.func270,Tryz.ntmps270
 go_wp2_with fail
 generalize w.alloc (.cells #[.slice A h.words.length c,.slice A' h.roots.length c'] 280)=W1 at *
 refine HWK.out.mono ?_
 rintro e w2 ⟨vl,vc,rfl,hown,_,hb2⟩
 have HOW:=Lib.hid (own_base hown (show w.heap.size≤W1.heap.size from HB.out.size))
 have HB2:=Lib.hid (below_top HB.out hb2)
 have HX2:=Lib.hid (HX.out.below hb2 HX.out.lt)
 have y0:=HX2.out.cell 0
 clear hown hb2 HWK x0 x1 HX
 obtain⟨Al,cl,hvl⟩:=own_val HOW.out
 subst hvl
 go_upto_region 3 with fail
 have hb3:=HB2.out.alloc HB2.out.size (.cells (zcells (.bool false) (h.words.length+1)) 4)
 have hbt:=(Below.refl w2.heap.size w2).alloc (Nat.le_refl _) (.cells (zcells (.bool false) (h.words.length+1)) 4)
 have HMK:=Lib.hid (show Row (w2.alloc (.cells (zcells (.bool false) (h.words.length+1)) 4)) w2.heap.size 4 (h.words.length+1) (bools (markL ((metO M).take 0) (h.words.length+1))) by
  rw [List.take_zero,markL_nil]
  exact falses_row w2 (h.words.length+1) (by simp only [maxLen]; omega))
 have HX3:=Lib.hid (HX2.out.below hbt HX2.out.lt)
 have HOW3:=Lib.hid (own_below HOW.out hbt)
 have HB3:=Lib.hid hb3
 have hgs:w.heap.size≤w2.heap.size:=HB2.out.size
 clear hb3 hbt HOW HB2 HX2 y0 hmk
 generalize (w2.alloc (.cells (zcells (.bool false) (h.words.length+1)) 4))=w3 at *
 generalize w2.heap.size=gs at *
 go_wp2_with fail
 go_loopw [25] (fun iv wr=>∃ k:Nat,iv = .int .i64 k∧k≤M.length∧Row wr gs 4 (h.words.length+1) (bools (markL ((metO M).take k) (h.words.length+1)))∧wr.ownsRow w.heap.size 54 1 (.slice Al M.length cl) M.length (u32s (metO M))∧Blk wr w.heap.size 280 #[.slice A h.words.length c,.slice A' h.roots.length c']∧Below w.heap.size w wr) (fun iv _=>M.length-(intOf iv).toNat)
 case atStart=>exact⟨0,rfl,Nat.zero_le _,HMK.out,HOW3.out,HX3.out,HB3.out⟩
 case round=>
  clear HMK HOW3 HX3 HB3
  obtain⟨k,rfl,hk,hmk,how,hx,hb⟩:=hrel
  have HMK:=Lib.hid hmk
  have HOW:=Lib.hid how
  have HX:=Lib.hid hx
  have HB:=Lib.hid hb
  clear hmk how hx hb
  by_cases hlt:k<M.length
  ·obtain⟨gv,cv,hvv,hrv,_,hgv⟩:=Row.of_any HOW.out (by omega)
   have hml:k<(metO M).length:=by rw [metO_len]; exact hlt
   have hcl:=hrv.cell (u32s_get (l:=metO M) (i:=k) hml)
   have HTK:=Lib.hid (show (metO M).take (k+1)=(metO M).take k++[(metO M).getD k 0] by rw [List.take_add_one,List.getElem?_eq_getElem hml,List.getD_eq_getElem?_getD,List.getElem?_eq_getElem hml]; rfl)
   obtain⟨j,hj,ho⟩:=isB_k HG.out (HMB.out _ (metO_mem hlt))
   rw [ho] at hcl HTK
   have hq1:posOf (l.take j)<h.words.length+1:=by have:=(w0_parts HG.out hj).2.2.2; omega
   have hq0:posOf (l.take j)≤1048576:=by have:=(w0_parts HG.out hj).2.2.2; omega
   generalize posOf (l.take j)=q at *
   have hq:=tdiv2q q
   have hq2:=div2q q
   have hwq:=wrK hq0
   have hwu:=wrU hq0
   have hwi:=wrI hq0
   generalize hoo:2*q=o at *
   have HOO:=Lib.hid hoo
   clear hoo
   generalize h.words.length+1=N at *
   have z0:=HMK.out.frozen q
   have y0:=HMK.out.cell (markL_get ((metO M).take k) hq1)
   have HLT:=Lib.hid hlt
   cases hvv
   clear hj ho hml hrv hq0
   go_wp2_with fail
   have hset:∀ i,i≠gs→(wr.setCell ⟨gs,q,none⟩ (.bool true)).heap[i]? = wr.heap[i]? :=fun i hi=>Below.heap_setCell wr ⟨gs,q,none⟩ _ i hi
   have hsb:=HMK.out.set q (.bool true)
   rw [markL_set,HOO.out,← HTK.out] at hsb
   have hx6:=HX.out.same (hset _ (HMK.out.ne_blk HX.out (by decide)).symm)
   have how6:=own_keep HOW.out (fun i hi=>hset i (fun e=>by obtain⟨cur,hcb,_⟩:=HMK.out; exact own_ne_blk HOW.out hcb (by decide) (e ▸ hi)))
   have hb6:Below w.heap.size w (wr.setCell ⟨gs,q,none⟩ (.bool true)):=HB.out.setCell (p:=⟨gs,q,none⟩) hgs _
   have HE:=Lib.hid (And.intro hsb (And.intro how6 (And.intro hx6 hb6)))
   clear hset hsb hx6 how6 hb6
   go_roundw
   case rel=>exact⟨k+1,by go_num,HLT.out,HE.out.1,HE.out.2.1,HE.out.2.2.1,HE.out.2.2.2⟩
   case measure=>have:=HLT.out; simp [intOf]; omega
  ·obtain rfl:k=M.length:=by omega
   rw [List.take_of_length_le (by rw [metO_len]; exact Nat.le_refl _)] at HMK
   have x0:=HX.out.cell 0
   have x1:=HX.out.cell 1
   have HOB:=Lib.hid (robjects_any (A':=A') (n':=h.roots.length) (c':=c') (c:=c) HG.out (HRW.out wr HB.out))
   unfold StV at HOB
   clear hlt hk HOW
   go_wp2_with fail
   refine HOB.out.mono ?_
   rintro e w6 ⟨v6,rfl,hown6,hb6⟩
   have HIX:=Lib.hid (own_base hown6 HB.out.size)
   rw [idxL_len] at HIX
   have HMK6:=Lib.hid (HMK.out.below hb6)
   have HB6:=Lib.hid (below_top HB.out hb6)
   obtain⟨Ai,ci,hvi⟩:=own_val HIX.out
   subst hvi
   clear hown6 hb6 HOB HMK HB HX x0 x1
   go_wp2_with fail
   go_loopw [8,38] (fun lv iv wr=>∃ k:Nat,iv = .int .i64 k∧k≤l.length∧wr.ownsRow w.heap.size 54 1 lv (livK (metO M) l k).length (u32s (livK (metO M) l k))∧wr.ownsRow w.heap.size 3 1 (.slice Ai l.length ci) l.length (ints (idxL l))∧Row wr gs 4 (h.words.length+1) (bools (markL (metO M) (h.words.length+1)))∧Below w.heap.size w wr) (fun _ iv _=>l.length-(intOf iv).toNat)
   case atStart=>exact⟨0,rfl,Nat.zero_le _,⟨rfl,.inl ⟨rfl,rfl⟩⟩,HIX.out,HMK6.out,HB6.out⟩
   case round=>
    clear HMK6 HIX HB6
    obtain⟨k,rfl,hk,how,hix,hmk,hb⟩:=hrel
    have HMK:=Lib.hid hmk
    have HOW:=Lib.hid how
    have HIX:=Lib.hid hix
    have HB:=Lib.hid hb
    clear hmk how hix hb
    by_cases hlt:k<l.length
    ·obtain⟨gv,cv,hvv,hrv,_,hgv⟩:=Row.of_any HIX.out (by omega)
     have hcl:=hrv.cell (ints_atK (idxL_get hlt))
     have hq1:posOf (l.take k)<h.words.length+1:=by have:=(w0_parts HG.out hlt).2.2.2; omega
     have hq0:posOf (l.take k)≤1048576:=by have:=(w0_parts HG.out hlt).2.2.2; omega
     have y0:=HMK.out.cell (markL_get (metO M) hq1)
     have HLT:=Lib.hid hlt
     have HYES:=Lib.hid (fun hm=>livK_yes (W:=metO M) hlt hm)
     have HNO:=Lib.hid (fun hm=>livK_no (W:=metO M) hlt hm)
     have hvl:=livK_len (metO M) l k
     generalize posOf (l.take k)=q at *
     cases hvv
     by_cases hm:2*q∈metO M
     ·rw [decide_eq_true hm] at y0
      have HS:=Lib.hid (HYES.out hm)
      have hw2:=wrM2 hq0
      have hu2:=wrU2 hq0
      clear hm HYES HNO hrv
      generalize livK (metO M) l k=xs at *
      obtain⟨i0,hi0,hz0,hz1,hz2⟩:=info_parts info_oop
      have hs5:=HB.out.size
      go_wp2_with (at_builtin; refine wpList_append_any _ rfl (.tmp 46) (.tmp 50) _ rfl w.heap.size 54 i0 _ 1 4 Tryz.underlying101 hi0 hz0 hz1 hz2 rfl (by omega) u8 xs.length _ rfl (HOW.out.alloc _) (wr.heap.size+1) (some ⟨wr.heap.size,0,none⟩) 1 1 [.int .u32 (2*(q:Int))] rfl ⟨rfl,fun _=>⟨_,rfl,by first | exact Nat.zero_lt_one | decide | simp,cell_one_new _ _ _⟩⟩ (fun u hu=>by rcases List.mem_singleton.1 hu with rfl; rfl) (by simp only [maxLen]; omega) (by omega) (by first | omega | (simp; omega)) ?_; intro v1 w7 hown7 hgrow hat7)
      have hb7:=below_grown (Nat.le_refl _) (HB.out.alloc hs5 _) hgrow (fun i hi=>(HOW.out.lt i hi).1)
      have hsm:∀ i,i<wr.heap.size→u8.ownBlock≠some i→w7.heap[i]? = wr.heap[i]? :=fun i h1 h2=>(hgrow.block i (by simp; omega) (fun e=>h2 (by first | exact e | exact e.symm))).trans (Below.heap_alloc wr _ i h1)
      have hmk7:=HMK.out.same (hsm gs HMK.out.lt (by obtain⟨cur,hcb,_⟩:=HMK.out; exact own_ne_blk HOW.out hcb (by decide)))
      have hix7:=own_keep HIX.out (fun i hi=>hsm i (HIX.out.lt i hi).2 (fun e=>own_ne_own HOW.out HIX.out (by decide) i e hi))
      have HE:=Lib.hid (And.intro hmk7 (And.intro hix7 (And.intro hb7 hown7)))
      clear hmk7 hix7 hb7 hown7 hsm hgrow hat7
      go_roundw
      case rel=>exact⟨k+1,by go_num,HLT.out,by rw [HS.out,u32s_app,List.length_append]; exact HE.out.2.2.2,HE.out.2.1,HE.out.1,HE.out.2.2.1⟩
      case measure=>have:=HLT.out; simp [intOf]; omega
     ·rw [decide_eq_false hm] at y0
      have HS:=Lib.hid (HNO.out hm)
      clear hm HYES HNO hrv
      go_wp2_with fail
      go_roundw
      case rel=>exact⟨k+1,by go_num,HLT.out,by rw [HS.out]; exact HOW.out,HIX.out,HMK.out,HB.out⟩
      case measure=>have:=HLT.out; simp [intOf]; omega
    ·obtain rfl:k=l.length:=by omega
     rw [HLA.out] at HOW
     clear hlt hk
     go_wp2_with fail
     go_ret
     exact⟨_,rfl,HOW.out,HB.out⟩
end
end
section
open Go.RowKit Go.Sort
attribute [local go_sem] Oper.semAt_some
theorem wrA3 {a f:Nat} (h:a+(3+f)≤1048576):wrap64 (3+(f:Int))=3+(f:Int)∧wrap64 ((a:Int)+(3+(f:Int)))=(a:Int)+(3+(f:Int)):=⟨IntWalk.wrap64_in _ (by omega),IntWalk.wrap64_in _ (by omega)⟩
section
variable {w:World} {h:HM} {l:List Ob} {A A':Option Addr} {n c n' c':Nat}
set_option maxRecDepth 100000 in
set_option maxHeartbeats 8000000 in
theorem rplan_any (G:h.Good l) (hr:Reads w w.heap.size 1 A n (u32s h.words)) (hq:Reads w w.heap.size 1 A' n' (u32s h.roots)):
 Calls Tryz.prog 238 #[StV A n c A' n' c'] w (PlanP (planM h l) w):=by
 have HG:=Lib.hid G
 have hX:=Blk.new w 280 #[.slice A n c,.slice A' n' c']
 have hB:=(Below.refl w.heap.size w).alloc (Nat.le_refl _) (.cells #[.slice A n c,.slice A' n' c'] 280)
 have HLV:=Lib.hid (rlive_any (A:=A) (A':=A') (n:=n) (n':=n') (c:=c) (c':=c') G ((hr.below hB).more hB.size) ((hq.below hB).more hB.size))
 have HRW:=Lib.hid (fun (w':World) (hb:Below w.heap.size w w')=>(hr.below hb).more hb.size)
 obtain⟨i0,hi0,hz0,hz1,hz2⟩:=info_parts info_mv
 have HLZ:=Lib.hid (keepZ_len h l)
 have HLF:=Lib.hid (keepZ_fst h l)
 have hLN:(keepZ h l).length≤1048576:=by
  have h1:=(keepZ_snd h l).length_le
  rw [List.length_map] at h1
  have h2:=oopsL_le G
  rw [oopsL_len] at h2
  omega
 have HW:=Lib.hid (show ∀ k,k≤(keepZ h l).length→1+(wsOf (((keepZ h l).take k).map (·.2))).length≤1048576 from fun k _=>by
  have h1:(wsOf (((keepZ h l).take k).map (·.2))).length≤(wsOf l).length:=wsOf_sub (((List.take_sublist k _).map _).trans (keepZ_snd h l))
  have h2:=G.fit.room
  have h3:=G.fit.hi
  rw [G.laid.words,List.length_cons] at h2
  omega)
 have x0:=hX.cell 0
 have x1:=hX.cell 1
 have HX:=Lib.hid hX
 have HB:=Lib.hid hB
 clear hX hB hr hq G
 unfold StV at HLV ⊢
 go_enter Tryz.func238,Tryz.ntmps238
 go_wp2_with fail
 generalize w.alloc (.cells #[.slice A n c,.slice A' n' c'] 280)=W1 at *
 refine HLV.out.mono ?_
 rintro e w1 ⟨v,rfl,hown,hb⟩
 have HOL:=Lib.hid hown
 have HB1:=Lib.hid (below_top HB.out hb)
 have HX1:=Lib.hid (HX.out.below hb HX.out.lt)
 obtain⟨Al,cl,hv⟩:=own_val hown
 subst hv
 rw [← HLZ.out]
 clear hown hb HLV x0 x1 HX
 go_wp2_with fail
 go_loopw [3,4,10] (fun lv av iv wr=>∃ k:Nat,iv = .int .i64 k∧k≤(keepZ h l).length∧av = .int .i64 ((1+(wsOf (((keepZ h l).take k).map (·.2))).length:Nat):Int)∧wr.ownsRow w1.heap.size 176 2 lv k (mvs (planF 1 ((keepZ h l).take k)))∧Below w1.heap.size w1 wr) (fun _ _ iv _=>(keepZ h l).length-(intOf iv).toNat)
 case atStart=>exact⟨0,rfl,Nat.zero_le _,rfl,⟨rfl,.inl ⟨rfl,rfl⟩⟩,Below.refl _ _⟩
 case round=>
  obtain⟨k,rfl,hk,rfl,hown,hb⟩:=hrel
  have HOW:=Lib.hid hown
  have HBr:=Lib.hid hb
  clear hown hb
  by_cases hlt:k<(keepZ h l).length
  ·have hL0:0<(liveO h l).length:=by rw [← HLZ.out]; omega
   obtain⟨gv,cv,hvv,hrv,_,hgv⟩:=Row.of_any HOL.out hL0
   rw [← HLZ.out] at hvv
   cases hvv
   have hcl:=(hrv.below HBr.out).cell (u32s_get (l:=liveO h l) (i:=k) (by rw [← HLZ.out]; exact hlt))
   have hpz:(liveO h l).getD k 0=((keepZ h l)[k]).1:=by
    rw [← HLF.out,List.getD_eq_getElem?_getD,List.getElem?_map,List.getElem?_eq_getElem hlt]; rfl
   rw [hpz] at hcl
   obtain⟨j,hj,hp1,hp2,hp3⟩:=keepZ_mem (List.getElem_mem hlt)
   have HSZ:=Lib.hid (fun (w':World) (hb:Below w.heap.size w w')=>rsize_any (A':=A') (n':=n') (c':=c') (c:=c) HG.out (HRW.out w' hb) hj)
   rw [← hp2] at HSZ
   have hq0:posOf (l.take j)≤1048576:=by
    have h1:=(w0_parts HG.out hj).2.2.2
    have h2:=HG.out.fit.room
    have h3:=HG.out.fit.hi
    omega
   have htk:(keepZ h l).take (k+1)=(keepZ h l).take k++[(keepZ h l)[k]]:=by rw [List.take_add_one,List.getElem?_eq_getElem hlt]; rfl
   have HP:=Lib.hid (show planF 1 ((keepZ h l).take (k+1))=planF 1 ((keepZ h l).take k)++[(((keepZ h l)[k]).1,2*(1+(wsOf (((keepZ h l).take k).map (·.2))).length))] by rw [htk,planF_snoc])
   have HA:=Lib.hid (show 1+(wsOf (((keepZ h l).take (k+1)).map (·.2))).length=1+(wsOf (((keepZ h l).take k).map (·.2))).length+(3+((keepZ h l)[k]).2.fs.length) by
    rw [htk,List.map_append,wsOf_app,List.length_append,List.map_cons,List.map_nil,wsOf_cons,wsOf_nil,List.length_append,Ob.ws_len]; simp; omega)
   have hw1:=HW.out (k+1) (by omega)
   rw [HA.out] at hw1
   rw [hp1] at hcl HP
   unfold StV at HSZ
   clear hpz hp1 hp2 hp3 htk hj hrv hL0
   generalize posOf (l.take j)=q at *
   have hq:=tdiv2q q
   have hq2:=div2q q
   have hwq:=wrK hq0
   have hwu:=wrU hq0
   have hwi:=wrI hq0
   generalize hoo:2*q=o at *
   generalize ((keepZ h l)[k]).2.fs.length=fl at *
   generalize planF 1 ((keepZ h l).take k)=P0 at *
   generalize 1+(wsOf (((keepZ h l).take k).map (·.2))).length=at_ at *
   have hat0:at_≤1048576:=Nat.le_trans (Nat.le_add_right _ _) hw1
   have hm2:=wrM2 hat0
   have hu2:=wrU2 hat0
   obtain⟨hw3,hw5⟩:=wrA3 hw1
   have HLT:=Lib.hid hlt
   have hk2:k≤1048576:=Nat.le_trans hk hLN
   have hbl:w1.heap.size≤wr.heap.size:=HBr.out.size
   have HQQ:=Lib.hid (And.intro hq (And.intro hq2 (And.intro hwq (And.intro hwu (And.intro hwi (And.intro hw3 hw5))))))
   clear hoo hk hw1 hq hq2 hwq hwu hwi hw3 hw5
   go_wp2_with (at_builtin; refine wpList_append_any _ rfl (.tmp 14) (.tmp 20) _ rfl w1.heap.size 176 i0 _ 2 8 Tryz.underlying173 hi0 hz0 hz1 hz2 rfl (by omega) u3 k _ rfl (own_keep HOW.out (fun q hq=>Below.heap_alloc wr (.cells #[.int .u32 (o:Int),.int .u32 (2*(at_:Int))] 176) q (HOW.out.lt q hq).2)) (wr.heap.size+1) (some ⟨wr.heap.size,0,none⟩) 1 1 [.int .u32 (o:Int),.int .u32 (2*(at_:Int))] rfl (reads_two wr _ _ _) (fun u hu=>by simp at hu; rcases hu with rfl | rfl <;> rfl) (by simp only [maxLen]; omega) (by omega) (by simp; omega) ?_; intro v3 w3 hown3 hgrow3 hat3; have HB3:=Lib.hid (below_grown (Nat.le_refl _) (HBr.out.alloc HBr.out.size (.cells #[.int .u32 (o:Int),.int .u32 (2*(at_:Int))] 176)) hgrow3 (fun q hq=>(HOW.out.lt q hq).1)); have HO3:=Lib.hid hown3; have HX3:=Lib.hid (HX1.out.below HB3.out HX1.out.lt); have x0:=HX3.out.cell 0; have x1:=HX3.out.cell 1; clear hown3 hgrow3 hat3; obtain⟨hq,hq2,hwq,hwu,hwi,hw3,hw5⟩:=HQQ.out)
   refine (HSZ.out _ (HB1.out.trans (HB3.out.mono HB1.out.size))).mono ?_
   rintro e w4 ⟨rfl,hb4⟩
   have HO4:=Lib.hid (own_below HO3.out hb4)
   have HB4:=Lib.hid (below_top HB3.out hb4)
   clear hb4 HO3 HB3 x0 x1
   go_wp2_with fail
   go_roundw
   case rel=>exact⟨k+1,by go_num,HLT.out,by rw [hw5]; exact congrArg (Value.int .i64) (posK HA.out),by rw [HP.out,mvs_snoc]; exact HO4.out,HB4.out⟩
   case measure=>have:=HLT.out; simp [intOf]; omega
  ·obtain rfl:k=(keepZ h l).length:=by omega
   have HE:=Lib.hid HOW.out
   rw [List.take_length] at HE
   clear HOW
   go_wp2_with fail
   go_ret
   refine⟨_,rfl,?_,HB1.out.trans (HBr.out.mono HB1.out.size)⟩
   unfold planM
   rw [planF_len]
   exact own_base HE.out HB1.out.size
end
end
section
open Go.RowKit Go.Sort
attribute [local go_sem] Oper.semAt_some
theorem make_oop1 (n:Nat) (hn:n≤1048576) (w:World):
 (Instr.makeSlice 101 (.int .i64 ((n:Int)+1)) (.int .i64 ((n:Int)+1))).run Tryz.prog w = .ok (.slice (some ⟨w.heap.size,0,none⟩) (n+1) (n+1)) (w.alloc (.cells (zcells (.int .u32 0) (n+1)) 54)):=by
 obtain⟨i0,hi0,hz0,hz1,hz2⟩:=info_parts info_oop
 have:=run_make_rowN (P:=Tryz.prog) 101 54 i0 _ Tryz.underlying101 hi0 hz0 .i64 .i64 (n+1) (n+1) (Nat.le_refl _) (by rw [hz2]; omega) (by omega) w
 have e:madeCells (Value.int .u32 0).cells ((n+1)*1)=zcells (.int .u32 0) (n+1):=by
  apply Array.ext
  ·simp [madeCells,zcells,Value.cells]
  ·intro i h1 h2
   simp [madeCells,zcells,Value.cells,Nat.mod_one]
 rw [hz1,e] at this
 rw [show ((n:Int)+1)=((n+1:Nat):Int) by omega]
 exact this
theorem tozeros_row (w:World) (F:Nat) (hF:F≤maxLen):Row (w.alloc (.cells (zcells (.int .u32 0) F) 54)) w.heap.size 54 F (u32s (toL [] F)):=by
 rw [toL_nil]
 exact⟨zcells (.int .u32 0) F,Blk.new w _ _,by simp [u32s],hF,by simp [zcells],by simp [zcells,u32s]⟩
set_option maxRecDepth 100000 in
set_option maxHeartbeats 2000000 in
theorem rmoved_any {w:World} {gt N:Nat} {pl:List (Nat × Nat)} (R:Row w gt 54 N (u32s (toL pl N))) {o:Nat} (ho:o<4294967296) (hk:kindM o=2→o / 2<N):
 Calls Tryz.prog 240 #[.slice (some ⟨gt,0,none⟩) N N,.int .u32 o] w (Said (.int .u32 (whereM pl o:Nat)) w):=by
 have HK:=Lib.hid (krkind_any o ho w)
 by_cases hk2:kindM o=2
 case neg=>
  have e2:((kindM o:Int) != 2)=true:=by simp; omega
  have HF:=Lib.hid (show whereM pl o=o by unfold whereM; rw [if_neg hk2])
  clear hk2 hk R
  generalize kindM o=k at *
  go_enter Tryz.func240,Tryz.ntmps240
  go_wp2_with fail
  refine HK.out.mono ?_
  rintro e w' ⟨rfl,rfl⟩
  go_wp2_with fail
  go_ret
  exact⟨by rw [HF.out]; rfl,rfl⟩
 case pos=>
  rw [hk2] at HK
  have hi:=hk hk2
  have hN:N≤9223372036854775807:=by
   have h1:=R.len_le
   obtain⟨cur,_,_,hm,_⟩:=R
   simp only [maxLen] at hm
   omega
  have HF:=Lib.hid (show whereM pl o=goesM pl o by unfold whereM; rw [if_pos hk2])
  have hcl:=R.cell (toL_get pl hi)
  rw [← (kind2 hk2).1] at hcl
  have hq:((o:Int)).tdiv 2=((o / 2:Nat):Int):=by rw [Int.tdiv_eq_ediv_of_nonneg (by omega)]; omega
  have hq2:((o:Int)) / 2=((o / 2:Nat):Int):=by omega
  have hw64:wrap64 ((o / 2:Nat):Int)=((o / 2:Nat):Int):=IntWalk.wrap64_in _ (by omega)
  clear hk hk2 R
  generalize o / 2=i at *
  generalize goesM pl o=y at *
  go_enter Tryz.func240,Tryz.ntmps240
  go_wp2_with fail
  refine HK.out.mono ?_
  rintro e w' ⟨rfl,rfl⟩
  go_wp2_with fail
  go_ret
  exact⟨by rw [HF.out]; rfl,rfl⟩
end
end Go.Proofs.YtlkahgagmfhdaaaGreatDoor
