import Derived.Test.YtlkahgagmfhdaaaGreatDoorQKCol
import Derived.Test.YtlkahgagmfhdaaaGreatDoorQAll
import Derived.Test.YtlkahgagmfhdaaaGreatDoorQUntil
import Derived.Test.YtlkahgagmfhdaaaGreatDoorQMem
import Derived.Test.YtlkahgagmfhdaaaGreatDoorQLive
import Derived.Test.YtlkahgagmfhdaaaGreatDoorQOop
import Derived.Test.YtlkahgagmfhdaaaGreatDoorQMarks
import Derived.Deep.RegionHeld3
import Derived.BigQuiet
set_option linter.unusedVariables false
set_option linter.unusedSimpArgs false
set_option linter.unusedSectionVars false
namespace Go.Proofs.YtlkahgagmfhdaaaGreatDoor
section
open Go.RowKit Go.Sort
attribute [local go_sem] Oper.semAt_some
structure CoS (w:World) (M gt gc gn N:Nat) (pl:List (Nat × Nat)) (vw vr:Value) (ws rs:List Nat) (a0 a1 a3 clr:Nat):Prop where
 t:Row w gt 54 N (u32s (toL pl N))
 c:Blk w gc 62 #[.int .i64 (a0:Int),.int .i64 (a1:Int),.int .i64 0,.int .i64 (a3:Int),.int .i64 (clr:Int)]
 n:Blk w gn 280 #[vw,vr]
 ow:w.ownsRow M 32 1 vw ws.length (u32s ws)
 or:w.ownsRow M 54 1 vr rs.length (u32s rs)
 ht:M≤gt
 hc:M≤gc
 hn:M≤gn
 nt:vr.ownBlock≠some gt
section
variable {w w':World} {M gt gc gn N:Nat} {pl:List (Nat × Nat)} {vw vr:Value} {ws rs:List Nat} {a0 a1 a3 clr:Nat}
theorem CoS.below (C:CoS w M gt gc gn N pl vw vr ws rs a0 a1 a3 clr) (h:Below w.heap.size w w'):CoS w' M gt gc gn N pl vw vr ws rs a0 a1 a3 clr:=
 ⟨C.t.below h,C.c.below h C.c.lt,C.n.below h C.n.lt,own_below C.ow h,own_below C.or h,C.ht,C.hc,C.hn,C.nt⟩
theorem CoS.far (C:CoS w M gt gc gn N pl vw vr ws rs a0 a1 a3 clr) {x:Nat} (hx:x≠gt∧x≠gc∧x≠gn∧vw.ownBlock≠some x∧vr.ownBlock≠some x) (hs:∀ q,q≠x→w'.heap[q]? = w.heap[q]?):CoS w' M gt gc gn N pl vw vr ws rs a0 a1 a3 clr:=
 ⟨C.t.same (hs _ hx.1.symm),C.c.same (hs _ hx.2.1.symm),C.n.same (hs _ hx.2.2.1.symm),own_keep C.ow (fun q hq=>hs q (fun e=>hx.2.2.2.1 (e ▸ hq))),own_keep C.or (fun q hq=>hs q (fun e=>hx.2.2.2.2 (e ▸ hq))),C.ht,C.hc,C.hn,C.nt⟩
theorem CoS.clear (C:CoS w M gt gc gn N pl vw vr ws rs a0 a1 a3 clr):CoS (w.setCell ⟨gc,4,none⟩ (.int .i64 ((clr:Int)+1))) M gt gc gn N pl vw vr ws rs a0 a1 a3 (clr+1):=by
 have hs:∀ q,q≠gc→(w.setCell ⟨gc,4,none⟩ (.int .i64 ((clr:Int)+1))).heap[q]? = w.heap[q]? :=fun q hq=>Below.heap_setCell w ⟨gc,4,none⟩ _ q hq
 exact⟨C.t.same (hs _ (C.t.ne_blk C.c (by decide))),C.c.set_ 4 (.int .i64 ((clr:Int)+1)),C.n.same (hs _ (C.n.ne_ C.c (by decide))),own_keep C.ow (fun q hq=>hs q (fun e=>own_ne_blk C.ow C.c (by decide) (e ▸ hq))),own_keep C.or (fun q hq=>hs q (fun e=>own_ne_blk C.or C.c (by decide) (e ▸ hq))),C.ht,C.hc,C.hn,C.nt⟩
end
section
variable {w w' w0:World} {M gt gc gn N:Nat} {pl:List (Nat × Nat)} {vw vr v5:Value} {ws rs ns:List Nat} {a0 a1 a3 clr:Nat}
theorem CoS.grow_r (C:CoS w M gt gc gn N pl vw vr ws rs a0 a1 a3 clr) (hown:w'.ownsRow M 54 1 v5 (rs.length+ns.length) (u32s rs++u32s ns)) (hg:w.grownBy w' vr.ownBlock) (hat:v5.ownBlock=vr.ownBlock∨v5.ownBlock=some w.heap.size) (hb:Below M w0 w) (hM:M≤w.heap.size):
 CoS (w'.setCell ⟨gn,1,none⟩ v5) M gt gc gn N pl vw v5 ws (rs++ns) a0 a1 a3 clr∧Below M w0 (w'.setCell ⟨gn,1,none⟩ v5)∧w'.frozen? ⟨gn,1,none⟩=false∧w'.cell? ⟨gn,1,none⟩=some vr:=by
 have hs:∀ q,q<w.heap.size→vr.ownBlock≠some q→w'.heap[q]? = w.heap[q]? :=fun q hq hn=>hg.block q hq (fun e=>hn (by first | exact e | exact e.symm))
 have hn5:Blk w' gn 280 #[vw,vr]:=C.n.same (hs gn C.n.lt (own_ne_blk C.or C.n (by decide)))
 have hset:∀ q,q≠gn→(w'.setCell ⟨gn,1,none⟩ v5).heap[q]? = w'.heap[q]? :=fun q hq=>Below.heap_setCell w' ⟨gn,1,none⟩ v5 q hq
 have ht5:=C.t.same (hs gt C.t.lt C.nt)
 have hc5:=C.c.same (hs gc C.c.lt (own_ne_blk C.or C.c (by decide)))
 have ho5:=own_keep C.ow (fun q hq=>hs q (C.ow.lt q hq).2 (fun e=>own_ne_own C.or C.ow (by decide) q e hq))
 have hr5:w'.ownsRow M 54 1 v5 (rs++ns).length (u32s (rs++ns)):=by rw [u32s_app,List.length_append]; exact hown
 refine⟨⟨ht5.same (hset _ (ht5.ne_blk hn5 (by decide))),hc5.same (hset _ (hc5.ne_ hn5 (by decide))),hn5.set_ 1 v5,own_keep ho5 (fun q hq=>hset q (fun e=>own_ne_blk ho5 hn5 (by decide) (e ▸ hq))),own_keep hr5 (fun q hq=>hset q (fun e=>own_ne_blk hr5 hn5 (by decide) (e ▸ hq))),C.ht,C.hc,C.hn,?_⟩,?_,hn5.frozen 1,hn5.cell 1⟩
 ·rcases hat with e | e
  ·rw [e]; exact C.nt
  ·rw [e]; intro e2; injection e2 with e2; have:=C.t.lt; omega
 ·refine hb.trans ⟨hg.os,hg.tape,hg.output,by simp [World.setCell]; exact hg.size,fun q hq=>?_⟩
  exact (hset q (by have:=C.hn; omega)).trans (hs q (by omega) (fun e=>by have:=(C.or.lt q e).1; omega))
theorem CoS.grow_w (C:CoS w M gt gc gn N pl vw vr ws rs a0 a1 a3 clr) (hown:w'.ownsRow M 32 1 v5 (ws.length+ns.length) (u32s ws++u32s ns)) (hg:w.grownBy w' vw.ownBlock) (hat:v5.ownBlock=vw.ownBlock∨v5.ownBlock=some w.heap.size) (hb:Below M w0 w) (hM:M≤w.heap.size):
 CoS (w'.setCell ⟨gn,0,none⟩ v5) M gt gc gn N pl v5 vr (ws++ns) rs a0 a1 a3 clr∧Below M w0 (w'.setCell ⟨gn,0,none⟩ v5)∧w'.frozen? ⟨gn,0,none⟩=false∧w'.cell? ⟨gn,0,none⟩=some vw:=by
 have hs:∀ q,q<w.heap.size→vw.ownBlock≠some q→w'.heap[q]? = w.heap[q]? :=fun q hq hn=>hg.block q hq (fun e=>hn (by first | exact e | exact e.symm))
 have hn5:Blk w' gn 280 #[vw,vr]:=C.n.same (hs gn C.n.lt (own_ne_blk C.ow C.n (by decide)))
 have hset:∀ q,q≠gn→(w'.setCell ⟨gn,0,none⟩ v5).heap[q]? = w'.heap[q]? :=fun q hq=>Below.heap_setCell w' ⟨gn,0,none⟩ v5 q hq
 have htn:vw.ownBlock≠some gt:=by obtain⟨cur,hcb,_⟩:=C.t; exact own_ne_blk C.ow hcb (by decide)
 have ht5:=C.t.same (hs gt C.t.lt htn)
 have hc5:=C.c.same (hs gc C.c.lt (own_ne_blk C.ow C.c (by decide)))
 have ho5:=own_keep C.or (fun q hq=>hs q (C.or.lt q hq).2 (fun e=>own_ne_own C.ow C.or (by decide) q e hq))
 have hr5:w'.ownsRow M 32 1 v5 (ws++ns).length (u32s (ws++ns)):=by rw [u32s_app,List.length_append]; exact hown
 refine⟨⟨ht5.same (hset _ (ht5.ne_blk hn5 (by decide))),hc5.same (hset _ (hc5.ne_ hn5 (by decide))),hn5.set_ 0 v5,own_keep hr5 (fun q hq=>hset q (fun e=>own_ne_blk hr5 hn5 (by decide) (e ▸ hq))),own_keep ho5 (fun q hq=>hset q (fun e=>own_ne_blk ho5 hn5 (by decide) (e ▸ hq))),C.ht,C.hc,C.hn,C.nt⟩,?_,hn5.frozen 0,hn5.cell 0⟩
 refine hb.trans ⟨hg.os,hg.tape,hg.output,by simp [World.setCell]; exact hg.size,fun q hq=>?_⟩
 exact (hset q (by have:=C.hn; omega)).trans (hs q (by omega) (fun e=>by have:=(C.ow.lt q e).1; omega))
end
section
variable {w w0:World} {M gt gc gn N:Nat} {pl:List (Nat × Nat)} {vw vr:Value} {ws rs:List Nat} {a0 a1 a3 clr:Nat}
theorem CoS.own (C:CoS w M gt gc gn N pl vw vr ws rs a0 a1 a3 clr) {go co g6 c6 ps:Nat} {os ns:List Nat} (R:Row w go 32 co (u32s os)) (R6:Row w g6 3 c6 (ints ns)) (hv:vw.ownBlock≠some go) (hb:Below M w0 w) (hM:M≤go) (x:Nat):
 CoS (w.setCell ⟨go,ps,none⟩ (.int .u32 (x:Int))) M gt gc gn N pl vw vr ws rs a0 a1 a3 clr∧Row (w.setCell ⟨go,ps,none⟩ (.int .u32 (x:Int))) go 32 co (u32s (os.set ps x))∧Row (w.setCell ⟨go,ps,none⟩ (.int .u32 (x:Int))) g6 3 c6 (ints ns)∧Below M w0 (w.setCell ⟨go,ps,none⟩ (.int .u32 (x:Int))):=by
 have hs:∀ q,q≠go→(w.setCell ⟨go,ps,none⟩ (.int .u32 (x:Int))).heap[q]? = w.heap[q]? :=fun q hq=>Below.heap_setCell w ⟨go,ps,none⟩ _ q hq
 refine⟨C.far ⟨R.ne_ C.t (by decide),R.ne_blk C.c (by decide),R.ne_blk C.n (by decide),hv,by obtain⟨cur,hcb,_⟩:=R; exact own_ne_blk C.or hcb (by decide)⟩ hs,?_,R6.same (hs _ (R6.ne_ R (by decide))),hb.setCell (p:=⟨go,ps,none⟩) hM _⟩
 have:=R.set ps (.int .u32 (x:Int))
 unfold u32s at this ⊢
 rw [List.map_set]
 exact this
end
theorem ws_sub {h:HM} {l:List Ob} (G:h.Good l) {k:Nat} (hk:k<l.length):(h.words.drop (posOf (l.take k))).take (3+(l[k]).fs.length)=(l[k]).ws:=by
 have e:=split_at l k hk
 have h1:h.words=0 :: (wsOf (l.take k)++((l[k]).ws++wsOf (l.drop (k+1)))):=by
  rw [G.laid.words]
  conv=>lhs; rw [e]
  rw [wsOf_app,wsOf_cons]
 rw [h1]
 unfold posOf
 rw [show 1+(wsOf (l.take k)).length=(wsOf (l.take k)).length+1 by omega,List.drop_succ_cons,List.drop_left,List.take_append_of_le_length (by rw [Ob.ws_len]; omega),List.take_of_length_le (by rw [Ob.ws_len]; omega)]
theorem wrQ3 {q:Nat} (h:q≤1048576):IntKind.i64.wrap ((q:Int)+3)=(q:Int)+3:=IntWalk.i64_in _ (by omega)
theorem wrQ4 {q f:Nat} (h:q+3+f≤1048576):IntKind.i64.wrap ((q:Int)+3+(f:Int))=(q:Int)+3+(f:Int):=IntWalk.i64_in _ (by omega)
theorem reads_sub {w:World} {B n k m:Nat} {A:Option Addr} {ws:List Nat} (h:Reads w B 1 A n (u32s ws)) (hk:k+m≤n) (hm:0<m):∃ ad,A=some ad∧Reads w B 1 (some (ad.add k)) m (u32s ((ws.drop k).take m)):=by
 have hl:ws.length=n:=by have:=h.1; rw [u32s_len] at this; omega
 obtain⟨ad,hA,hb,hc⟩:=h.2 (by omega)
 refine⟨ad,hA,by rw [u32s_len,List.length_take,List.length_drop]; omega,fun _=>⟨_,rfl,by rw [block_of_add]; exact hb,fun j u hu=>?_⟩⟩
 have hu':(u32s ws)[k+j]? = some u:=by
  unfold u32s at hu ⊢
  rw [List.getElem?_map,List.getElem?_take] at hu
  split at hu
  ·rw [List.getElem?_drop] at hu
   rw [List.getElem?_map]
   exact hu
  ·cases hu
 have:=hc (k+j) u hu'
 rw [Addr.add_add]
 exact this
theorem slice_mid (wx:World) (ad:Addr) (n c q m:Nat) (hh:q+3+m≤c):
 (Instr.sliceAt 84 (.slice (some ad) n c) (some (.int .i64 (q:Int))) (some (.int .i64 ((q:Int)+3+(m:Int)))) none).run Tryz.prog wx = .ok (.slice (some (ad.add q)) (3+m) (c-q)) wx:=by
 obtain⟨i0,hi0,hz0,hz1,hz2⟩:=info_parts info_u32
 have he:Program.elem Tryz.prog 84=32:=by simp [Program.elem,Tryz.underlying84]
 have hz:∀ w,(Go.sizeOf 32).run Tryz.prog w = .ok 1 w:=fun w=>by go_simp
 rw [run_sliceAt_slice (P:=Tryz.prog) wx 84 _ _ _ _ (by rw [he]; exact Tryz.underlying84),run_slice_lh (P:=Tryz.prog) wx 84 (some ad) n c (by rw [he]; exact Tryz.underlying84) .i64 .i64 (q:Int) ((q:Int)+3+(m:Int)) (by omega) (by omega) (by omega),he,hz]
 simp only [Result.andThen,sliced]
 rw [show ((q:Int)).toNat=q by omega,show ((q:Int)+3+(m:Int)).toNat=q+3+m by omega,if_neg (by omega),show q+3+m-q=3+m by omega,Nat.mul_one]
 rfl
theorem exec_slice {P:Program} {ρ:Operand→Value} {o:Oper} {t:TypeId} {x lo hi:Operand} {w:World} {v a b d:Value} (ho:o.op = .slice t x (some lo) (some hi) none) (ha:ρ x=a) (hb:ρ lo=b) (hd:ρ hi=d) (h:(Instr.sliceAt t a (some b) (some d) none).run P w = .ok v w):(execOp ρ o).run P w = .ok (.value v) w:=by
 subst ha hb hd
 unfold execOp
 simp only [ho,Option.map_some,Option.map_none,Sem.run_bind,Sem.run_pure,h,Result.andThen_ok]
theorem mvd_snoc (pl:List (Nat × Nat)) (p:Nat × Nat):mvd (pl++[p])=mvd pl+(if p.1=p.2 then 0 else 1):=by
 unfold mvd
 rw [List.filter_append,List.length_append]
 by_cases h:p.1=p.2
 ·simp [h]
 ·simp [h]
theorem mvd_le (pl:List (Nat × Nat)):mvd pl≤pl.length:=List.length_filter_le _ _
section
variable {w:World} {h:HM} {l:List Ob} {A A':Option Addr} {n c n' c':Nat}
def RColP (h:HM) (l:List Ob) (w:World) (e:Ending) (w':World):Prop:=
 ∃ vw vr,e = .returned (.tuple #[.agg #[vw,vr],colV h l])∧w'.ownsRow w.heap.size 32 1 vw (colH h l).words.length (u32s (colH h l).words)∧w'.ownsRow w.heap.size 54 1 vr (colH h l).roots.length (u32s (colH h l).roots)∧Below w.heap.size w w'
set_option maxRecDepth 100000 in
set_option maxHeartbeats 8000000 in
theorem rcol_any (G:h.Good l) (hr:Reads w w.heap.size 1 A n (u32s h.words)) (hq:Reads w w.heap.size 1 A' n' (u32s h.roots)) (hnc:n≤c):
 Calls Tryz.prog 185 #[StV A n c A' n' c'] w (RColP h l w):=by
 have hln:n=h.words.length:=by have:=hr.1; rw [u32s_len] at this; omega
 have hln':n'=h.roots.length:=by have:=hq.1; rw [u32s_len] at this; omega
 subst hln hln'
 have hwl:h.words.length≤1048576:=by have:=G.fit.room; have:=G.fit.hi; omega
 have hl2:l.length≤1048576:=by have h1:=oopsL_le G; rw [oopsL_len] at h1; exact h1
 have HG:=Lib.hid G
 have hb1:=(((Below.refl w.heap.size w).alloc (Nat.le_refl _) (.cells #[.slice A h.words.length c,.slice A' h.roots.length c'] 280)).alloc (by simp) (.cells #[.slice none 0 0,.slice none 0 0] 280)).alloc (by simp; omega) (.cells #[.int .i64 0,.int .i64 0,.int .i64 0,.int .i64 0,.int .i64 0] 62)
 have S1:=((Blk.new w 280 #[.slice A h.words.length c,.slice A' h.roots.length c']).alloc (.cells #[.slice none 0 0,.slice none 0 0] 280)).alloc (.cells #[.int .i64 0,.int .i64 0,.int .i64 0,.int .i64 0,.int .i64 0] 62)
 have S2:=(Blk.new (w.alloc (.cells #[.slice A h.words.length c,.slice A' h.roots.length c'] 280)) 280 #[.slice none 0 0,.slice none 0 0]).alloc (.cells #[.int .i64 0,.int .i64 0,.int .i64 0,.int .i64 0,.int .i64 0] 62)
 have S3:=Blk.new ((w.alloc (.cells #[.slice A h.words.length c,.slice A' h.roots.length c'] 280)).alloc (.cells #[.slice none 0 0,.slice none 0 0] 280)) 62 #[.int .i64 0,.int .i64 0,.int .i64 0,.int .i64 0,.int .i64 0]
 simp only [World.size_alloc] at S2 S3
 have HB1:=Lib.hid hb1
 have HS1:=Lib.hid (And.intro S1 (And.intro S2 S3))
 have HRW:=Lib.hid (fun (w':World) (hb:Below w.heap.size w w')=>(hr.below hb).more hb.size)
 have HRR:=Lib.hid (fun (w':World) (hb:Below w.heap.size w w')=>(hq.below hb).more hb.size)
 have x0:=S1.cell 0
 have x1:=S1.cell 1
 have hmk:=make_oop1 h.words.length hwl
 clear hb1 S1 S2 S3 hr hq G
 unfold StV
 go_enter Tryz.func185,Tryz.ntmps185
 go_upto_region 1 with fail
 generalize (((w.alloc (.cells #[.slice A h.words.length c,.slice A' h.roots.length c'] 280)).alloc (.cells #[.slice none 0 0,.slice none 0 0] 280)).alloc (.cells #[.int .i64 0,.int .i64 0,.int .i64 0,.int .i64 0,.int .i64 0] 62))=w1 at *
 have HPL:=Lib.hid (rplan_any (A:=A) (A':=A') (c:=c) (c':=c') HG.out (HRW.out w1 HB1.out) (HRR.out w1 HB1.out))
 unfold StV at HPL
 go_wp2_with fail
 refine HPL.out.mono ?_
 rintro e w2 ⟨v2,rfl,hown2,hb2⟩
 obtain⟨A5,g5,c5,rfl,hg5,ho5⟩:=own_two hown2
 have HST:=Lib.hid (show ∀ w',Below w2.heap.size w2 w'→Blk w' w.heap.size 280 #[.slice A h.words.length c,.slice A' h.roots.length c']∧Blk w' (w.heap.size+1) 280 #[.slice none 0 0,.slice none 0 0]∧Blk w' (w.heap.size+1+1) 62 #[.int .i64 0,.int .i64 0,.int .i64 0,.int .i64 0,.int .i64 0]∧(0<(planM h l).length→A5=some ⟨g5,0,none⟩∧PlA w' g5 (planM h l))∧Below w.heap.size w w' from fun w' hb=>by
  have hk:=fun {g:Nat} {t:TypeId} {cs:Array Value} (b:Blk w1 g t cs)=>(b.below hb2 b.lt).below hb (b.below hb2 b.lt).lt
  exact⟨hk HS1.out.1,hk HS1.out.2.1,hk HS1.out.2.2,fun h0=>⟨(ho5 h0).1,(ho5 h0).2.same hb.size (hb.block _ (ho5 h0).2.1)⟩,HB1.out.trans ((below_top hb2 hb).mono HB1.out.size)⟩)
 have hM:=Nat.lt_of_lt_of_le HS1.out.2.2.lt hb2.size
 have x0:=(HST.out w2 (Below.refl _ _)).1.cell 0
 have x1:=(HST.out w2 (Below.refl _ _)).1.cell 1
 have hpn:(planM h l).length≤l.length:=by
  have h1:=congrArg List.length (planM_fst h l)
  rw [List.length_map] at h1
  have h2:(liveO h l).length≤(oopsL l).length:=List.length_filter_le _ _
  rw [oopsL_len] at h2
  omega
 clear hown2 hb2 ho5 hg5 HPL HS1 HB1
 go_upto_region 3 with fail
 have hb3:=(Below.refl w2.heap.size w2).alloc (Nat.le_refl _) (.cells (zcells (.int .u32 0) (h.words.length+1)) 54)
 have HT3:=Lib.hid (tozeros_row w2 (h.words.length+1) (by simp only [maxLen]; omega))
 have HB3:=Lib.hid hb3
 have hsz3:=World.size_alloc w2 (.cells (zcells (.int .u32 0) (h.words.length+1)) 54)
 have x0:=(HST.out _ hb3).1.cell 0
 have x1:=(HST.out _ hb3).1.cell 1
 have HOB:=Lib.hid (robjects_any (A':=A') (n':=h.roots.length) (c':=c') (c:=c) HG.out (HRW.out _ (HST.out _ hb3).2.2.2.2))
 unfold StV at HOB
 clear hb3 hmk
 generalize w2.alloc (.cells (zcells (.int .u32 0) (h.words.length+1)) 54)=w3 at *
 go_wp2_with fail
 refine HOB.out.mono ?_
 rintro e w4 ⟨v4,rfl,hown4,hb4⟩
 obtain⟨A4,c4,hv4⟩:=own_val hown4
 rw [idxL_len] at hv4
 subst hv4
 have HT4:=Lib.hid (HT3.out.below hb4)
 have HB4:=Lib.hid (below_top HB3.out hb4)
 have hsub:(l.length:Int)-((planM h l).length:Int)=((l.length-(planM h l).length:Nat):Int):=by omega
 have HSUB:=Lib.hid hsub
 have hM4:w2.heap.size<w4.heap.size:=by have:=hb4.size; omega
 clear hown4 hb4 HOB HT3 HB3 x0 x1
 clear hsub
 go_upto_region 4 with fail
 rw [HSUB.out]
 generalize ha1:l.length-(planM h l).length=a1 at *
 have hb5:=(Below.refl w4.heap.size w4).alloc (Nat.le_refl _) (.cells #[.int .i64 ((planM h l).length:Int),.int .i64 (a1:Int),.int .i64 0,.int .i64 0,.int .i64 0] 62)
 have HC5:=Lib.hid (show Blk (w4.alloc (.cells #[.int .i64 ((planM h l).length:Int),.int .i64 (a1:Int),.int .i64 0,.int .i64 0,.int .i64 0] 62)) w4.heap.size 62 #[.int .i64 ((planM h l).length:Int),.int .i64 (a1:Int),.int .i64 0,.int .i64 ((mvd ((planM h l).take 0):Nat):Int),.int .i64 0] from Blk.new w4 _ _)
 have HT5:=Lib.hid (HT4.out.below hb5)
 have HB5:=Lib.hid (below_top HB4.out hb5)
 have HSUB:=Lib.hid ha1
 clear hb5 HT4 HB4 ha1 hsz3
 generalize w4.alloc (.cells #[.int .i64 ((planM h l).length:Int),.int .i64 (a1:Int),.int .i64 0,.int .i64 0,.int .i64 0] 62)=w5 at *
 generalize w4.heap.size=gc at *
 go_wp2_with fail
 go_loopw [40] (fun iv wr=>∃ k:Nat,iv = .int .i64 k∧k≤(planM h l).length∧Row wr w2.heap.size 54 (h.words.length+1) (u32s (toL ((planM h l).take k) (h.words.length+1)))∧Blk wr gc 62 #[.int .i64 ((planM h l).length:Int),.int .i64 (a1:Int),.int .i64 0,.int .i64 ((mvd ((planM h l).take k):Nat):Int),.int .i64 0]∧Below w2.heap.size w2 wr) (fun iv _=>(planM h l).length-(intOf iv).toNat)
 case atStart=>exact⟨0,rfl,Nat.zero_le _,HT5.out,HC5.out,HB5.out⟩
 case round =>
  clear HT5 HC5 HB5
  obtain⟨k,rfl,hk,ht,hc,hb⟩:=hrel
  have HT:=Lib.hid ht
  have HC:=Lib.hid hc
  have HB:=Lib.hid hb
  clear ht hc hb
  by_cases hlt:k<(planM h l).length
  --B1 4
  ·have hst:=(HST.out wr HB.out).2.2.2.1 (by omega)
   obtain⟨rfl,hpa⟩:=hst
   have hpk:(planM h l)[k]? = some (planM h l)[k]:=List.getElem?_eq_getElem hlt
   obtain⟨d0,d1⟩:=hpa.2 k _ hpk
   have htk:(planM h l).take (k+1)=(planM h l).take k++[(planM h l)[k]]:=by rw [List.take_add_one,hpk]; rfl
   have hfst:=planM_fst h l
   have hnd:((planM h l).map (·.1)).Nodup:=by rw [hfst,← keepZ_fst]; exact keepZ_nodup h l
   have hnin:((planM h l)[k]).1∉((planM h l).take k).map (·.1):=by
    have h1:(planM h l).map (·.1)=((planM h l).take k).map (·.1)++((planM h l)[k]).1 :: ((planM h l).drop (k+1)).map (·.1):=by
     conv=>lhs; rw [← List.take_append_drop k (planM h l),List.drop_eq_getElem_cons hlt]
     rw [List.map_append,List.map_cons]
    rw [h1,List.nodup_append] at hnd
    intro hm
    exact hnd.2.2 _ hm _ (List.mem_cons_self ..) rfl
   have hlive:((planM h l)[k]).1∈liveO h l:=by rw [← hfst]; exact List.mem_map.2 ⟨_,List.getElem_mem hlt,rfl⟩
   obtain⟨j,hj,ho⟩:=isB_k HG.out (walk_isB HG.out HG.out.sound.roots _ ((mem_liveO HG.out).1 hlive))
   have hy32:((planM h l)[k]).2<4294967296:=by
    have:=goes_lt HG.out ((planM h l)[k]).1
    rw [goesM_at hnd hpk] at this
    exact this
   have HSET:=Lib.hid (fun i hi=>toL_set hnin (i:=i) hi (h.words.length+1))
   have HMV:=Lib.hid (mvd_snoc ((planM h l).take k) (planM h l)[k])
   rw [← htk] at HSET HMV
   have hmv:=mvd_le ((planM h l).take k)
   have hq1:posOf (l.take j)<h.words.length+1:=by have:=(w0_parts HG.out hj).2.2.2; omega
   have hq0:posOf (l.take j)≤1048576:=by have:=(w0_parts HG.out hj).2.2.2; omega
   rw [List.length_take] at hmv
   have hmv2:mvd ((planM h l).take k)≤1048576:=by omega
   rw [ho] at d0 HSET HMV
   clear hpa hpk htk hfst hnd hnin hlive hj ho hmv hk
   generalize posOf (l.take j)=q at *
   have hq:=tdiv2q q
   have hq2:=div2q q
   have hwq:=wrK hq0
   have hwu:=wrU hq0
   have hwi:=wrI hq0
   generalize hoo:2*q=o at *
   have HOO:=Lib.hid hoo
   clear hoo hq0
   generalize ((planM h l)[k]).2=y at *
   generalize mvd ((planM h l).take k)=T at *
   generalize h.words.length+1=N at *
   have HLT:=Lib.hid hlt
   have z0:=HT.out.frozen q
   go_upto_region 7 with fail
   have hba:=(Below.refl wr.heap.size wr).alloc (Nat.le_refl _) (.cells #[.int .u32 (o:Int),.int .u32 (y:Int)] 176)
   have HX:=Lib.hid (Blk.new wr 176 #[.int .u32 (o:Int),.int .u32 (y:Int)])
   have HT8:=Lib.hid (HT.out.below hba)
   have HC8:=Lib.hid (HC.out.below hba HC.out.lt)
   have HB8:=Lib.hid (below_top HB.out hba)
   have hgmx:w2.heap.size≠wr.heap.size:=by have:=HT.out.lt; omega
   clear hba z0 HT HC HB d0 d1
   generalize wr.alloc (.cells #[.int .u32 (o:Int),.int .u32 (y:Int)] 176)=w8 at *
   generalize wr.heap.size=gm at *
   have y0:=HX.out.cell 0
   have y1:=HX.out.cell 1
   have z0:=HT8.out.frozen q
   have c3:=HT8.out.cell (toL_get ((planM h l).take k) hq1)
   go_upto_region 8 with fail
   have hset:∀ i,i≠w2.heap.size→(w8.setCell ⟨w2.heap.size,q,none⟩ (.int .u32 (y:Int))).heap[i]? = w8.heap[i]? :=fun i hi=>Below.heap_setCell w8 ⟨w2.heap.size,q,none⟩ _ i hi
   have hsb:=HT8.out.set q (.int .u32 (y:Int))
   rw [HSET.out q HOO.out.symm] at hsb
   have HT9:=Lib.hid hsb
   have hgt:gc≠w2.heap.size:=(HT8.out.ne_blk HC8.out (by decide)).symm
   have HC9:=Lib.hid (HC8.out.same (hset gc hgt))
   have HX9:=Lib.hid (HX.out.same (hset gm hgmx.symm))
   have HB9:=Lib.hid (show Below w2.heap.size w2 (w8.setCell ⟨w2.heap.size,q,none⟩ (.int .u32 (y:Int))) from HB8.out.setCell (p:=⟨w2.heap.size,q,none⟩) (Nat.le_refl _) _)
   clear hset hsb y0 y1 z0 c3 HT8 HC8 HX HB8 hq hq2 hwq hwu hwi
   generalize w8.setCell ⟨w2.heap.size,q,none⟩ (.int .u32 (y:Int))=w9 at *
   have y0:=HX9.out.cell 0
   have y1:=HX9.out.cell 1
   by_cases hxy:o=y
   ·have hne:((o:Int) != (y:Int))=false:=by simp; omega
    have HM1:=Lib.hid (show mvd ((planM h l).take (k+1))=T by rw [HMV.out,if_pos hxy]; rfl)
    clear hxy HMV
    go_wp2_with fail
    go_roundw
    case rel=>exact⟨k+1,by go_num,HLT.out,HT9.out,by rw [HM1.out]; exact HC9.out,HB9.out⟩
    case measure=>have:=HLT.out; simp [intOf]; omega
   ·have hne:((o:Int) != (y:Int))=true:=by simp; omega
    have HM1:=Lib.hid (show mvd ((planM h l).take (k+1))=T+1 by rw [HMV.out,if_neg hxy])
    have HGC:=Lib.hid (show w2.heap.size≤gc from Nat.le_of_lt hM4)
    have k3:=HC9.out.cell 3
    have k4:=HC9.out.frozen 3
    clear hxy HMV
    go_wp2_with fail
    have hset:∀ i,i≠gc→(w9.setCell ⟨gc,3,none⟩ (.int .i64 ((T:Int)+1))).heap[i]? = w9.heap[i]? :=fun i hi=>Below.heap_setCell w9 ⟨gc,3,none⟩ _ i hi
    have HE:=Lib.hid (show Row (w9.setCell ⟨gc,3,none⟩ (.int .i64 ((T:Int)+1))) w2.heap.size 54 N (u32s (toL ((planM h l).take (k+1)) N))∧Blk (w9.setCell ⟨gc,3,none⟩ (.int .i64 ((T:Int)+1))) gc 62 #[.int .i64 ((planM h l).length:Int),.int .i64 (a1:Int),.int .i64 0,.int .i64 ((mvd ((planM h l).take (k+1)):Nat):Int),.int .i64 0]∧Below w2.heap.size w2 (w9.setCell ⟨gc,3,none⟩ (.int .i64 ((T:Int)+1))) from
     ⟨HT9.out.same (hset _ hgt.symm),by rw [HM1.out]; exact HC9.out.set_ 3 (.int .i64 ((T:Int)+1)),HB9.out.setCell (p:=⟨gc,3,none⟩) HGC.out _⟩)
    clear hset k3 k4 y0 y1
    go_roundw
    case rel=>exact⟨k+1,by go_num,HLT.out,HE.out.1,HE.out.2.1,HE.out.2.2⟩
    case measure=>have:=HLT.out; simp [intOf]; omega
  --E1
  ·obtain rfl:k=(planM h l).length:=by omega
   rw [List.take_length] at HT HC
   clear hlt hk
   go_upto_region 12 with fail
   have hba:=((Below.refl wr.heap.size wr).alloc (Nat.le_refl _) (.cells #[.int .u32 0] 32)).alloc (by simp) (.cells #[.slice (some ⟨wr.heap.size,0,none⟩) 1 1,.slice none 0 0] 280)
   have hBz:=HB.out.size
   have HCS:=Lib.hid (show CoS ((wr.alloc (.cells #[.int .u32 0] 32)).alloc (.cells #[.slice (some ⟨wr.heap.size,0,none⟩) 1 1,.slice none 0 0] 280)) w2.heap.size w2.heap.size gc (wr.heap.size+1) (h.words.length+1) (planM h l) (.slice (some ⟨wr.heap.size,0,none⟩) 1 1) (.slice none 0 0) [0] ((h.roots.take 0).map (whereM (planM h l))) (planM h l).length a1 (mvd (planM h l)) 0 from by
    refine⟨HT.out.below hba,HC.out.below hba HC.out.lt,?_,?_,⟨rfl,.inl ⟨rfl,rfl⟩⟩,Nat.le_refl _,Nat.le_of_lt hM4,by omega,fun e=>by cases e⟩
    ·have:=Blk.new (wr.alloc (.cells #[.int .u32 0] 32)) 280 #[.slice (some ⟨wr.heap.size,0,none⟩) 1 1,.slice none 0 0]
     rw [World.size_alloc] at this
     exact this
    ·have h0:(wr.alloc (.cells #[.int .u32 0] 32)).ownsRow wr.heap.size 32 1 (.slice (some ⟨wr.heap.size,0,none⟩) 1 1) 1 (u32s [0]):=⟨rfl,.inr ⟨wr.heap.size,1,#[.int .u32 0],rfl,Nat.le_refl _,heap_alloc_new wr _,Nat.le_refl _,by decide,by simp,rfl⟩⟩
     exact own_base (own_below h0 ((Below.refl _ _).alloc (Nat.le_refl _) _)) hBz)
   have HB12:=Lib.hid (below_top HB.out hba)
   clear hba HT HC HB
   generalize hgn:wr.heap.size+1=gn at *
   generalize Value.slice (some ⟨wr.heap.size,0,none⟩) 1 1=vw0 at *
   generalize ((wr.alloc (.cells #[.int .u32 0] 32)).alloc (.cells #[vw0,.slice none 0 0] 280))=w12 at *
   clear hgn hBz
   have x0:=(HST.out _ HB12.out).1.cell 0
   have x1:=(HST.out _ HB12.out).1.cell 1
   have HRT:=Lib.hid (fun x hx=>And.intro (HG.out.fit.r32 x hx) (HG.out.sound.roots x hx))
   go_wp2_with fail
   clear x0 x1
   go_loopw [67] (fun iv wr=>∃ (k:Nat) (vr:Value),iv = .int .i64 k∧k≤h.roots.length∧CoS wr w2.heap.size w2.heap.size gc gn (h.words.length+1) (planM h l) vw0 vr [0] ((h.roots.take k).map (whereM (planM h l))) (planM h l).length a1 (mvd (planM h l)) 0∧Below w2.heap.size w2 wr) (fun iv _=>h.roots.length-(intOf iv).toNat)
   case atStart=>exact⟨0,_,rfl,Nat.zero_le _,HCS.out,HB12.out⟩
   case round=>
    clear HCS HB12
    obtain⟨k,vr,rfl,hk,hcs,hb⟩:=hrel
    have HCS:=Lib.hid hcs
    have HB:=Lib.hid hb
    clear hcs hb
    by_cases hlt:k<h.roots.length
    --B2 8
    ·obtain⟨ad,u,rfl,_,hu,hcr⟩:=(HRR.out wr (HST.out wr HB.out).2.2.2.2).at_ hlt
     rw [u32s_get hlt] at hu
     injection hu with hu
     subst hu
     have hxr:=HRT.out _ (getD_mem' hlt)
     have HMVD:=Lib.hid (fun (w':World) (hb:Below wr.heap.size wr w')=>rmoved_any (HCS.out.below hb).t hxr.1 (fun hk2=>isB_half HG.out (valB_isB hxr.2 hk2)))
     have HTK:=Lib.hid (show (h.roots.take (k+1)).map (whereM (planM h l))=(h.roots.take k).map (whereM (planM h l))++[whereM (planM h l) (h.roots.getD k 0)] by
      rw [List.take_add_one,List.getElem?_eq_getElem hlt,List.getD_eq_getElem?_getD,List.getElem?_eq_getElem hlt,List.map_append]
      rfl)
     have hrl:((h.roots.take k).map (whereM (planM h l))).length=k:=by rw [List.length_map,List.length_take]; omega
     have HRL:=Lib.hid hrl
     have h64:=HG.out.fit.roots
     have hk64:k≤64:=by omega
     have HLT:=Lib.hid hlt
     clear hxr hrl h64 hk
     generalize h.roots.getD k 0=x at *
     generalize whereM (planM h l) x=y at *
     generalize (h.roots.take k).map (whereM (planM h l))=rs at *
     have hor:=HCS.out.or
     rw [HRL.out] at hor
     obtain⟨Av,cv,hvr⟩:=own_val hor
     have HOR:=Lib.hid hor
     clear hor
     go_upto_region 15 with fail
     refine wp_region_U 8 (fun w'=>w'.cell? ⟨gn,1,none⟩=some vr∧True) (by kernel_rfl) ?_
     have hbd:Below wr.heap.size wr wr.drew:=below_drew (Below.refl _ _)
     have HCq:=Lib.hid (HCS.out.below hbd)
     have HORq:=Lib.hid (own_below HOR.out hbd)
     have HBq:=Lib.hid (below_top HB.out hbd)
     have HMq:=Lib.hid (HMVD.out wr.drew hbd)
     clear hbd HCS HOR HB HMVD hcr
     generalize wr.drew=wq at *
     have hS:wq.cell? ⟨gn,1,none⟩=some vr∧True:=⟨HCq.out.n.cell 1,trivial⟩
     subst hvr
     refine U_readC 0 [1,6,8] (v:=(.pointer (some ⟨gn,1,none⟩))) rfl (by kernel_rfl) (fun _ _ _ h=>h) hS (by rfl) (fun w' hw'=>by obtain⟨h0,_⟩:=hw'; go_simp) ?_
     try simp only [Act.put,List.setIfInBounds_toArray,List.set_cons_zero,List.set_cons_succ]
     refine U_readC 1 [6,8] (v:=(.slice Av k cv)) rfl (by kernel_rfl) (fun _ _ _ h=>h) hS (by rfl) (fun w' hw'=>by obtain⟨h0,_⟩:=hw'; go_simp) ?_
     try simp only [Act.put,List.setIfInBounds_toArray,List.set_cons_zero,List.set_cons_succ]
     refine U_readC 2 [4,5,6,8] (v:=(.slice (some ⟨w2.heap.size,0,none⟩) (h.words.length+1) (h.words.length+1))) rfl (by kernel_rfl) (fun _ _ _ h=>h) hS (by rfl) (fun w' hw'=>by obtain⟨h0,_⟩:=hw'; go_simp) ?_
     try simp only [Act.put,List.setIfInBounds_toArray,List.set_cons_zero,List.set_cons_succ]
     refine U_readC 3 [4,5,6,8] (v:=(.int .u32 (x:Int))) rfl (by kernel_rfl) (fun _ _ _ h=>h) hS (by rfl) (fun w' hw'=>by obtain⟨h0,_⟩:=hw'; go_simp) ?_
     try simp only [Act.put,List.setIfInBounds_toArray,List.set_cons_zero,List.set_cons_succ]
     refine U_one 4 (by kernel_rfl) rfl rfl (fun K hK=>?_)
     go_simp
     refine HMq.out.mono ?_
     rintro e w7 ⟨rfl,rfl⟩
     refine hK _ _ (fun _=>hS) ?_
     clear hK K
     try simp only [Act.put,List.setIfInBounds_toArray,List.set_cons_zero,List.set_cons_succ]
     refine U_one 5 (by kernel_rfl) rfl rfl (fun K hK=>?_)
     go_simp
     have hba:Below wq.heap.size wq (wq.alloc (.cells #[.int .u32 (y:Int)] 54)):=(Below.refl _ _).alloc (Nat.le_refl _) _
     have HC8:=Lib.hid (HCq.out.below hba)
     have HB8:=Lib.hid (below_top HBq.out hba)
     have HO8:=Lib.hid (own_below HORq.out hba)
     have hS8:(wq.alloc (.cells #[.int .u32 (y:Int)] 54)).cell? ⟨gn,1,none⟩=some (.slice Av k cv)∧True:=⟨HC8.out.n.cell 1,trivial⟩
     clear hba HBq HMq HCq HORq hS
     refine hK _ _ (fun _=>hS8) ?_
     clear hK K
     try simp only [Act.put,List.setIfInBounds_toArray,List.set_cons_zero,List.set_cons_succ]
     obtain⟨i0,hi0,hz0,hz1,hz2⟩:=info_parts info_oop
     refine U_one 6 (by kernel_rfl) rfl rfl (fun K hK=>?_)
     refine wp_append_any _ (.tmp 72) (.tmp 76) _ rfl w2.heap.size 54 i0 _ 1 4 Tryz.underlying101 hi0 hz0 hz1 hz2 rfl (by omega) (.slice Av k cv) k (u32s rs) rfl HO8.out (wq.heap.size+1) (some ⟨wq.heap.size,0,none⟩) 1 1 (u32s [y]) rfl ⟨rfl,fun _=>⟨_,rfl,by simp,cell_one_new _ _ _⟩⟩ (one_u32 _) (by simp only [maxLen]; omega) (by omega) HB8.out.size ?_
     intro v9 w9 hown9 hgrow9 hat9
     have hg9:=HC8.out.grow_r (ns:=[y]) (by rw [HRL.out]; exact hown9) hgrow9 hat9 HB8.out HB8.out.size
     have HG9:=Lib.hid hg9
     have hz9:=hg9.2.2.1
     have hc9:=hg9.2.2.2
     obtain⟨A9,c9,rfl⟩:=own_val hown9
     clear hown9 hgrow9 hat9 hg9 HC8 HB8 HO8
     refine hK _ _ (fun _=>⟨hc9,trivial⟩) ?_
     clear hK K
     try simp only [Act.put,List.setIfInBounds_toArray,List.set_cons_zero,List.set_cons_succ]
     have hS:w9.cell? ⟨gn,1,none⟩=some (.slice Av k cv)∧True:=⟨hc9,trivial⟩
     refine U_read 7 (v:=(.pointer (some ⟨gn,1,none⟩))) rfl (by kernel_rfl) (fun _ _ _ h=>h) hS (by rfl) (fun w' hw'=>by obtain⟨h0,_⟩:=hw'; go_simp) ?_
     try simp only [Act.put,List.setIfInBounds_toArray,List.set_cons_zero,List.set_cons_succ]
     clear hS
     refine U_one 8 (by kernel_rfl) rfl rfl (fun K hK=>?_)
     go_simp
     refine hK _ _ (fun h=>absurd h (by decide)) ?_
     clear hK K
     try simp only [Act.put,List.setIfInBounds_toArray,List.set_cons_zero,List.set_cons_succ]
     refine U_done (by kernel_rfl) ?_ _
     simp only [Calm,Exit.then]
     clear hS8 hz9 hc9
     go_wp2_with fail
     go_roundw
     case rel=>exact⟨k+1,_,by go_num,HLT.out,by rw [HTK.out]; exact HG9.out.1,HG9.out.2.1⟩
     case measure=>have:=HLT.out; simp [intOf]; omega
    --E2
    ·obtain rfl:k=h.roots.length:=by omega
     rw [List.take_length] at HCS
     clear hlt hk HRT
     go_wp2_with fail
     have hpk:(planM h l).length=(keepZ h l).length:=planF_len 1 (keepZ h l)
     have HPK:=Lib.hid hpk
     clear hpk
     go_loopw [82] (fun iv wr=>∃ (k:Nat) (vw:Value),iv = .int .i64 k∧k≤(planM h l).length∧CoS wr w2.heap.size w2.heap.size gc gn (h.words.length+1) (planM h l) vw vr (0 :: wsOf ((colL h l).take k)) (h.roots.map (whereM (planM h l))) (planM h l).length a1 (mvd (planM h l)) (clrN (planM h l) ((keepZ h l).take k))∧Below w2.heap.size w2 wr) (fun iv _=>(planM h l).length-(intOf iv).toNat)
     case atStart=>exact⟨0,vw0,rfl,Nat.zero_le _,HCS.out,HB.out⟩
     case round=>
      clear HCS HB
      obtain⟨k,vw,rfl,hk,hcs,hb⟩:=hrel
      have HCS:=Lib.hid hcs
      have HB:=Lib.hid hb
      clear hcs hb
      by_cases hlt:k<(planM h l).length
      --B5 12
      ·have hkz:k<(keepZ h l).length:=by rw [← HPK.out]; exact hlt
       obtain⟨j,hj,hp1,hp2,hp3⟩:=keepZ_mem (List.getElem_mem hkz)
       have hst:=(HST.out wr HB.out).2.2.2.1 (by omega)
       obtain⟨rfl,hpa⟩:=hst
       obtain⟨d0,d1⟩:=hpa.2 k _ (plan_get h l hkz)
       dsimp only at d0 d1
       have hzm:=List.getElem_mem hkz
       have HCL:=Lib.hid (show (colL h l).take (k+1)=(colL h l).take k++[relob (planM h l) (voidM h l) (l[j])] by
        rw [List.take_add_one,List.getElem?_eq_getElem (by rw [colL_len]; exact hkz),← hp2]
        unfold colL
        rw [List.getElem_map]
        rfl)
       have HCN:=Lib.hid (show clrN (planM h l) ((keepZ h l).take (k+1))=clrN (planM h l) ((keepZ h l).take k)+clearedB (planM h l) (l[j]) by
        rw [List.take_add_one,List.getElem?_eq_getElem hkz,Option.toList_some,clr_snoc,hp2])
       have HNC:=Lib.hid (fun (q i:Nat) hi hil=>new_cases HG.out hzm (q:=q) (j:=i) hi hil (voidM h l))
       have HN32:=Lib.hid (fun (i:Nat) hil=>name_32 HG.out hzm (j:=i) hil)
       rw [hp2] at HNC HN32
       have HNA:=Lib.hid (fun (i:Nat) hi=>nms_at HG.out hj (j:=i) hi)
       have HNB:=Lib.hid (fun (i:Nat) hi h2=>name_isB HG.out hj (j:=i) hi h2)
       have HSZ:=Lib.hid (fun (w':World) (hb:Below w.heap.size w w')=>rsize_any (A':=A') (n':=h.roots.length) (c':=c') (c:=c) HG.out (HRW.out w' hb) hj)
       have HNM:=Lib.hid (fun (w':World) (hb:Below w.heap.size w w')=>rnames_any (A':=A') (n':=h.roots.length) (c':=c') (c:=c) HG.out (HRW.out w' hb) hj)
       have hpw:=(w0_parts HG.out hj).2.2.2
       have HWSB:=Lib.hid (ws_sub HG.out hj)
       rw [hp1] at d0
       clear hp1 hp2 hp3 hpa hzm
       generalize posOf (l.take j)=q at *
       generalize l[j]=b at *
       generalize 2*posOf ((colL h l).take k)=y2 at *
       have hq0:q≤1048576:=by omega
       have hq:=tdiv2q q
       have hq2:=div2q q
       have hwq:=wrK hq0
       have hwu:=wrU hq0
       have hwi:=wrI hq0
       generalize hoo:2*q=o at *
       have HLT:=Lib.hid hlt
       have HPW:=Lib.hid hpw
       clear hoo hk
       unfold StV at HSZ HNM
       go_upto_region 21 with fail
       have hba:=(Below.refl wr.heap.size wr).alloc (Nat.le_refl _) (.cells #[.int .u32 (o:Int),.int .u32 (y2:Int)] 176)
       have HC21:=Lib.hid (HCS.out.below hba)
       have HB21:=Lib.hid (below_top HB.out hba)
       clear hba HCS HB d0 d1 hq hq2 hwq hwu hwi
       generalize wr.alloc (.cells #[.int .u32 (o:Int),.int .u32 (y2:Int)] 176)=w21 at *
       refine wp_region_U 11 (fun w'=>w'.cell? ⟨w.heap.size,0,none⟩=some (.slice A h.words.length c)∧w'.cell? ⟨w.heap.size,1,none⟩=some (.slice A' h.roots.length c')) (by kernel_rfl) ?_
       have hbd:Below w21.heap.size w21 w21.drew:=below_drew (Below.refl _ _)
       have HCq:=Lib.hid (HC21.out.below hbd)
       have HBq:=Lib.hid (below_top HB21.out hbd)
       clear hbd HC21 HB21
       generalize w21.drew=wq at *
       have hS:wq.cell? ⟨w.heap.size,0,none⟩=some (.slice A h.words.length c)∧wq.cell? ⟨w.heap.size,1,none⟩=some (.slice A' h.roots.length c'):=⟨(HST.out wq HBq.out).1.cell 0,(HST.out wq HBq.out).1.cell 1⟩
       have HZq:=Lib.hid (HSZ.out wq (HST.out wq HBq.out).2.2.2.2)
       have hw3:=wrQ3 hq0
       generalize hfl:b.fs.length=fl at *
       have hw98:IntKind.i64.wrap ((q:Int)+3+(fl:Int))=(q:Int)+3+(fl:Int):=wrQ4 (Nat.le_trans hpw hwl)
       clear HSZ
       refine U_read 0 (v:=(.pointer (some ⟨w.heap.size,0,none⟩))) rfl (by kernel_rfl) (fun _ _ _ h=>h) hS (by rfl) (fun w' hw'=>by obtain⟨h0,h1⟩:=hw'; go_simp) ?_
       try simp only [Act.put,List.setIfInBounds_toArray,List.set_cons_zero,List.set_cons_succ]
       refine U_read 1 (v:=(.slice A h.words.length c)) rfl (by kernel_rfl) (fun _ _ _ h=>h) hS (by rfl) (fun w' hw'=>by obtain⟨h0,h1⟩:=hw'; go_simp) ?_
       try simp only [Act.put,List.setIfInBounds_toArray,List.set_cons_zero,List.set_cons_succ]
       refine U_read 2 (v:=(.int .i64 (q:Int))) rfl (by kernel_rfl) (fun _ _ _ h=>h) hS (by rfl) (fun w' hw'=>by obtain⟨h0,h1⟩:=hw'; go_simp) ?_
       try simp only [Act.put,List.setIfInBounds_toArray,List.set_cons_zero,List.set_cons_succ]
       refine U_read 3 (v:=(.int .i64 (q:Int))) rfl (by kernel_rfl) (fun _ _ _ h=>h) hS (by rfl) (fun w' hw'=>by obtain⟨h0,h1⟩:=hw'; go_simp) ?_
       try simp only [Act.put,List.setIfInBounds_toArray,List.set_cons_zero,List.set_cons_succ]
       refine U_read 4 (v:=(.int .i64 ((q:Int)+3))) rfl (by kernel_rfl) (fun _ _ _ h=>h) hS (by rfl) (fun w' hw'=>by obtain⟨h0,h1⟩:=hw'; go_simp) ?_
       try simp only [Act.put,List.setIfInBounds_toArray,List.set_cons_zero,List.set_cons_succ]
       refine U_read 5 (v:=(.agg #[.slice A h.words.length c,.slice A' h.roots.length c'])) rfl (by kernel_rfl) (fun _ _ _ h=>h) hS (by rfl) (fun w' hw'=>by obtain⟨h0,h1⟩:=hw'; go_simp) ?_
       try simp only [Act.put,List.setIfInBounds_toArray,List.set_cons_zero,List.set_cons_succ]
       refine U_read 6 (v:=(.int .i64 (q:Int))) rfl (by kernel_rfl) (fun _ _ _ h=>h) hS (by rfl) (fun w' hw'=>by obtain⟨h0,h1⟩:=hw'; go_simp) ?_
       try simp only [Act.put,List.setIfInBounds_toArray,List.set_cons_zero,List.set_cons_succ]
       refine U_one 7 (by kernel_rfl) rfl rfl (fun K hK=>?_)
       go_simp
       refine HZq.out.mono ?_
       rintro e w7 ⟨rfl,hb7⟩
       have HC7:=Lib.hid (HCq.out.below hb7)
       have HB7:=Lib.hid (below_top HBq.out hb7)
       have hS7:w7.cell? ⟨w.heap.size,0,none⟩=some (.slice A h.words.length c)∧w7.cell? ⟨w.heap.size,1,none⟩=some (.slice A' h.roots.length c'):=⟨(HST.out w7 HB7.out).1.cell 0,(HST.out w7 HB7.out).1.cell 1⟩
       clear hb7 HCq HBq HZq hS
       refine hK _ _ (fun _=>hS7) ?_
       clear hK K
       try simp only [Act.put,List.setIfInBounds_toArray,List.set_cons_zero,List.set_cons_succ]
       have hS:=hS7
       refine U_read 8 (v:=(.int .i64 ((q:Int)+3+(fl:Int)))) rfl (by kernel_rfl) (fun _ _ _ h=>h) hS (by rfl) (fun w' hw'=>by obtain⟨h0,h1⟩:=hw'; go_simp) ?_
       try simp only [Act.put,List.setIfInBounds_toArray,List.set_cons_zero,List.set_cons_succ]
       obtain⟨ad,hrd⟩:=reads_sub (HRW.out w7 (HST.out w7 HB7.out).2.2.2.2) (k:=q) (m:=3+fl) (by omega) (by omega)
       obtain⟨rfl,hrd⟩:=hrd
       have hmid:=fun wx=>slice_mid wx ad h.words.length c q fl (Nat.le_trans hpw hnc)
       refine U_read 9 (v:=.slice (some (ad.add q)) (3+fl) (c-q)) rfl (by kernel_rfl) (fun _ _ _ h=>h) hS (by rfl) (fun w' hw'=>exec_slice (t:=84) (x:=.tmp 91) (lo:=.tmp 92) (hi:=.tmp 98) rfl rfl rfl rfl (hmid w')) ?_
       try simp only [Act.put,List.setIfInBounds_toArray,List.set_cons_zero,List.set_cons_succ]
       clear hmid
       obtain⟨k0,hk0,hy0,hy1,hy2⟩:=info_parts info_u32
       have hbz7:=HB7.out.size
       refine U_one 10 (by kernel_rfl) rfl rfl (fun K hK=>?_)
       refine wp_append_any _ (.const (.slice none 0 0)) (.tmp 99) _ rfl w7.heap.size 32 k0 _ 1 4 Tryz.underlying84 hk0 hy0 hy1 hy2 rfl (by omega) (.slice none 0 0) 0 [] rfl ⟨rfl,.inl ⟨rfl,rfl⟩⟩ w7.heap.size (some (ad.add q)) (3+fl) _ (u32s ((h.words.drop q).take (3+fl))) rfl hrd (one_u32s _) (by simp only [maxLen]; omega) (by omega) (Nat.le_refl _) ?_
       intro v9 w9 hown9 hgrow9 hat9
       rw [Nat.zero_add,List.nil_append,HWSB.out] at hown9
       obtain⟨go,co,rfl,hro,_,hgo⟩:=Row.of_any hown9 (by omega)
       rw [← stepO_zero (pl:=planM h l) (void:=voidM h l)] at hro
       have hb9:Below w7.heap.size w7 w9:=⟨hgrow9.os,hgrow9.tape,hgrow9.output,hgrow9.size,fun g hg=>hgrow9.block g hg (fun e=>by cases e)⟩
       have HC9:=Lib.hid (HC7.out.below hb9)
       have HB9:=Lib.hid (below_top HB7.out hb9)
       have HR9:=Lib.hid hro
       have HGO:=Lib.hid (show w2.heap.size≤go∧vw.ownBlock≠some go from⟨Nat.le_trans hbz7 hgo,fun e=>by have:=(HC7.out.ow.lt go e).2; omega⟩)
       have hS9:w9.cell? ⟨w.heap.size,0,none⟩=some (.slice (some ad) h.words.length c)∧w9.cell? ⟨w.heap.size,1,none⟩=some (.slice A' h.roots.length c'):=⟨(HST.out w9 HB9.out).1.cell 0,(HST.out w9 HB9.out).1.cell 1⟩
       clear hown9 hgrow9 hat9 hb9 hro hgo HC7 HB7 hrd hS7 hS hbz7
       refine hK _ _ (fun _=>hS9) ?_
       clear hK K
       try simp only [Act.put,List.setIfInBounds_toArray,List.set_cons_zero,List.set_cons_succ]
       refine U_one 11 (by kernel_rfl) rfl rfl (fun K hK=>?_)
       go_simp
       refine hK _ _ (fun h=>absurd h (by decide)) ?_
       clear hK K
       try simp only [Act.put,List.setIfInBounds_toArray,List.set_cons_zero,List.set_cons_succ]
       refine U_done (by kernel_rfl) ?_ _
       simp only [Calm,Exit.then]
       obtain⟨s0,s1⟩:=hS9
       have HNM9:=Lib.hid (HNM.out w9 (HST.out w9 HB9.out).2.2.2.2)
       unfold RNamP at HNM9
       clear HNM
       go_wp2_with fail
       refine HNM9.out.mono ?_
       rintro e w10 ⟨v10,rfl,hown10,hb10⟩
       obtain⟨g6,c6,rfl,hr6,_,hg6⟩:=Row.of_any hown10 (nmsK_pos q b)
       have HR6:=Lib.hid hr6
       have HC10:=Lib.hid (HC9.out.below hb10)
       have HB10:=Lib.hid (below_top HB9.out hb10)
       have HR10:=Lib.hid (HR9.out.below hb10)
       have HE1:=Lib.hid (stepO_end (pl:=planM h l) (void:=voidM h l) q b)
       have HE2:=Lib.hid (clrJ_end (pl:=planM h l) q b)
       have HE3:=Lib.hid (nmsK_len q b)
       clear hown10 hb10 hr6 hg6 HNM9 HC9 HB9 HR9 s0 s1
       have HNCq:=Lib.hid (fun i hi hil=>HNC.out q i hi hil)
       clear HNC
       have hflN:fl≤1048576:=by omega
       rw [hfl] at HE3
       generalize nmsK q b=nl at *
       generalize holdN q b=hn at *
       go_wp2_with fail
       go_loopw [109] (fun jv wr=>∃ i:Nat,jv = .int .i64 i∧i≤nl.length∧CoS wr w2.heap.size w2.heap.size gc gn (h.words.length+1) (planM h l) vw vr (0 :: wsOf ((colL h l).take k)) (h.roots.map (whereM (planM h l))) (planM h l).length a1 (mvd (planM h l)) (clrN (planM h l) ((keepZ h l).take k)+clrJ (planM h l) b i)∧Row wr go 32 co (u32s (stepO (planM h l) (voidM h l) b i))∧Row wr g6 3 c6 (ints nl)∧Below w2.heap.size w2 wr) (fun jv _=>nl.length-(intOf jv).toNat)
       case atStart=>exact⟨0,rfl,Nat.zero_le _,by rw [clrJ_zero]; exact HC10.out,HR10.out,HR6.out,HB10.out⟩
       case round=>
        clear HC10 HR10 HR6 HB10
        obtain⟨i,rfl,hi,hcs,hro,hr6,hb⟩:=hrel
        have HC:=Lib.hid hcs
        have HR:=Lib.hid hro
        have HR6:=Lib.hid hr6
        have HB:=Lib.hid hb
        clear hcs hro hr6 hb
        by_cases hlt:i<nl.length
        ·obtain⟨x,hx1,hx2,hx3,hx4,hil⟩:=HNA.out i hlt
         obtain⟨hnc1,hnc2⟩:=HNCq.out i hlt hil
         have hn32:=HN32.out i hil
         have hnb:=HNB.out i hlt
         have hnc:=HR6.out.cell (ints_atK hx1)
         obtain⟨ad2,u,had,_,hu,hcw⟩:=(HRW.out wr (HST.out wr HB.out).2.2.2.2).at_ hx2
         rw [u32s_get hx2,hx3] at hu
         injection hu with hu
         subst hu
         injection had with had
         subst had
         have HSET:=Lib.hid (stepO_set (pl:=planM h l) (void:=voidM h l) (b:=b) (j:=i) (by rw [hfl]; exact hil))
         have HMVD:=Lib.hid (rmoved_any HC.out.t hn32 (fun hk2=>isB_half HG.out (hnb hk2)))
         have HKD:=Lib.hid (fun w'=>krkind_any _ hn32 w')
         have hps:(if i=0 then 1 else 2+i)<3+fl:=by split <;> omega
         have HVD:=Lib.hid (show (h.roots.map (whereM (planM h l))).getD 0 0=voidM h l by
          unfold voidM
          have h64:=HG.out.fit.roots
          rw [List.getD_eq_getElem?_getD,List.getElem?_map,List.getElem?_eq_getElem (by omega),List.getD_eq_getElem?_getD,List.getElem?_eq_getElem (by omega)]
          rfl)
         have HR64:=Lib.hid (show (h.roots.map (whereM (planM h l))).length=64 by rw [List.length_map]; exact HG.out.fit.roots)
         have hCC:clrN (planM h l) ((keepZ h l).take k)+clrJ (planM h l) b i≤4194304:=by
          have h1:=clr_le (planM h l) ((keepZ h l).take k)
          have h2:(wsOf (((keepZ h l).take k).map (·.2))).length≤(wsOf l).length:=wsOf_sub (((List.take_sublist k _).map _).trans (keepZ_snd h l))
          have h3:=HG.out.fit.room
          have h4:=HG.out.fit.hi
          rw [HG.out.laid.words,List.length_cons] at h3
          have h5:=clrJ_le (pl:=planM h l) (b:=b) i
          rw [hfl] at h5
          omega
         have hxq:(x:Int)-(q:Int)=((if i=0 then 1 else 2+i:Nat):Int):=by omega
         have hx20:x≤1048576:=by omega
         have hnl2:nl.length≤1048577:=by have:=HE3.out; omega
         have HLTi:=Lib.hid hlt
         generalize newV (planM h l) (voidM h l) b i=nw at *
         generalize voidM h l=void at *
         generalize (if i=0 then 1 else 2+i:Nat)=ps at *
         generalize nameV b i=nv at *
         generalize whereM (planM h l) nv=y at *
         generalize kindM nv=kd at *
         generalize hCCe:clrN (planM h l) ((keepZ h l).take k)+clrJ (planM h l) b i=CC at *
         have HCCe:=Lib.hid hCCe
         have s0:=(HST.out wr HB.out).1.cell 0
         have s1:=(HST.out wr HB.out).1.cell 1
         have z5:=HR.out.frozen ps
         have c5':=HR.out.cell (u32s_get (i:=ps) (by rw [stepO_len,hfl]; exact hps))
         generalize (stepO (planM h l) void b i).getD ps 0=oldv at *
         clear hx1 hx2 hx3 hx4 hnb hn32 hCCe hil
         by_cases hB:hn≤i∧kd=2∧y=0
         ·obtain⟨hnw,hcl⟩:=hnc2 hB
          obtain⟨hB1,rfl,rfl⟩:=hB
          have d1:decide ((hn:Int)≤(i:Int))=true:=by simp; omega
          have hor:=HC.out.or
          rw [HR64.out] at hor
          obtain⟨gr,cr,hvr,hrr,_,_⟩:=Row.of_any hor (by omega)
          have hc0:=hrr.cell (u32s_get (l:=h.roots.map (whereM (planM h l))) (i:=0) (by rw [HR64.out]; omega))
          rw [HVD.out] at hc0
          subst hvr
          have n1:=HC.out.n.cell 1
          have k4:=HC.out.c.cell 4
          have k5:=HC.out.c.frozen 4
          have HF:=Lib.hid (show CoS ((wr.setCell ⟨gc,4,none⟩ (.int .i64 ((CC:Int)+1))).setCell ⟨go,ps,none⟩ (.int .u32 (void:Int))) w2.heap.size w2.heap.size gc gn (h.words.length+1) (planM h l) vw (.slice (some ⟨gr,0,none⟩) 64 cr) (0 :: wsOf ((colL h l).take k)) (h.roots.map (whereM (planM h l))) (planM h l).length a1 (mvd (planM h l)) (clrN (planM h l) ((keepZ h l).take k)+clrJ (planM h l) b (i+1))∧Row ((wr.setCell ⟨gc,4,none⟩ (.int .i64 ((CC:Int)+1))).setCell ⟨go,ps,none⟩ (.int .u32 (void:Int))) go 32 co (u32s (stepO (planM h l) void b (i+1)))∧Row ((wr.setCell ⟨gc,4,none⟩ (.int .i64 ((CC:Int)+1))).setCell ⟨go,ps,none⟩ (.int .u32 (void:Int))) g6 3 c6 (ints nl)∧Below w2.heap.size w2 ((wr.setCell ⟨gc,4,none⟩ (.int .i64 ((CC:Int)+1))).setCell ⟨go,ps,none⟩ (.int .u32 (void:Int))) from by
           have hs:∀ g,g≠gc→(wr.setCell ⟨gc,4,none⟩ (.int .i64 ((CC:Int)+1))).heap[g]? = wr.heap[g]? :=fun g hg=>Below.heap_setCell wr ⟨gc,4,none⟩ _ g hg
           have h0:=HC.out.clear.own (HR.out.same (hs _ (HR.out.ne_blk HC.out.c (by decide)))) (HR6.out.same (hs _ (HR6.out.ne_blk HC.out.c (by decide)))) HGO.out.2 (HB.out.setCell (p:=⟨gc,4,none⟩) HC.out.hc _) HGO.out.1 (ps:=ps) void
           have e:(stepO (planM h l) void b i).set ps void=stepO (planM h l) void b (i+1):=by rw [← HSET.out,hnw]
           rw [e] at h0
           rw [hcl,← Nat.add_assoc,HCCe.out]
           exact h0)
          have hgg:go≠gc:=HR.out.ne_blk HC.out.c (by decide)
          have z6:(wr.setCell ⟨gc,4,none⟩ (.int .i64 ((CC:Int)+1))).frozen? ⟨go,ps,none⟩=false:=(World.frozen?_of_block (Below.heap_setCell wr ⟨gc,4,none⟩ _ go hgg)).trans z5
          have c6':(wr.setCell ⟨gc,4,none⟩ (.int .i64 ((CC:Int)+1))).cell? ⟨go,ps,none⟩=some (.int .u32 (oldv:Int)):=(World.cell?_of_block (Below.heap_setCell wr ⟨gc,4,none⟩ _ go hgg)).trans c5'
          clear hnc1 hnc2 hnw hcl hrr hor hgg
          have d2:decide (hn≤i)=true:=decide_eq_true hB1
          go_wp2_with fail
          refine HMVD.out.mono ?_
          rintro e w7 ⟨rfl,rfl⟩
          go_wp2_with fail
          refine (HKD.out _).mono ?_
          rintro e w8 ⟨rfl,rfl⟩
          go_wp2_with fail
          go_roundw
          case rel=>exact⟨i+1,by go_num,HLTi.out,HF.out.1,HF.out.2.1,HF.out.2.2.1,HF.out.2.2.2⟩
          case measure=>have:=HLTi.out; simp [intOf]; omega
         ·obtain⟨hnw,hcl⟩:=hnc1 hB
          have HF:=Lib.hid (show CoS (wr.setCell ⟨go,ps,none⟩ (.int .u32 (y:Int))) w2.heap.size w2.heap.size gc gn (h.words.length+1) (planM h l) vw vr (0 :: wsOf ((colL h l).take k)) (h.roots.map (whereM (planM h l))) (planM h l).length a1 (mvd (planM h l)) (clrN (planM h l) ((keepZ h l).take k)+clrJ (planM h l) b (i+1))∧Row (wr.setCell ⟨go,ps,none⟩ (.int .u32 (y:Int))) go 32 co (u32s (stepO (planM h l) void b (i+1)))∧Row (wr.setCell ⟨go,ps,none⟩ (.int .u32 (y:Int))) g6 3 c6 (ints nl)∧Below w2.heap.size w2 (wr.setCell ⟨go,ps,none⟩ (.int .u32 (y:Int))) from by
           have h0:=HC.out.own HR.out HR6.out HGO.out.2 HB.out HGO.out.1 (ps:=ps) y
           have e:(stepO (planM h l) void b i).set ps y=stepO (planM h l) void b (i+1):=by rw [← HSET.out,hnw]
           rw [e] at h0
           rw [hcl,HCCe.out]
           exact h0)
          clear hnc1 hnc2 hnw hcl
          by_cases hB1:hn≤i
          ·have d1:decide ((hn:Int)≤(i:Int))=true:=by simp; omega
           have d2:decide (hn≤i)=true:=decide_eq_true hB1
           by_cases hB2:kd=2
           ·have hy0:((y:Int) == 0)=false:=by simp; exact fun e=>hB ⟨hB1,hB2,e⟩
            subst hB2
            clear hB
            go_wp2_with fail
            refine HMVD.out.mono ?_
            rintro e w7 ⟨rfl,rfl⟩
            go_wp2_with fail
            refine (HKD.out _).mono ?_
            rintro e w8 ⟨rfl,rfl⟩
            go_wp2_with fail
            go_roundw
            case rel=>exact⟨i+1,by go_num,HLTi.out,HF.out.1,HF.out.2.1,HF.out.2.2.1,HF.out.2.2.2⟩
            case measure=>have:=HLTi.out; simp [intOf]; omega
           ·have hk0:((kd:Int) == 2)=false:=by simp; omega
            clear hB hB2
            go_wp2_with fail
            refine HMVD.out.mono ?_
            rintro e w7 ⟨rfl,rfl⟩
            go_wp2_with fail
            refine (HKD.out _).mono ?_
            rintro e w8 ⟨rfl,rfl⟩
            go_wp2_with fail
            go_roundw
            case rel=>exact⟨i+1,by go_num,HLTi.out,HF.out.1,HF.out.2.1,HF.out.2.2.1,HF.out.2.2.2⟩
            case measure=>have:=HLTi.out; simp [intOf]; omega
          ·have d1:decide ((hn:Int)≤(i:Int))=false:=by simp; omega
           have d2:decide (hn≤i)=false:=decide_eq_false hB1
           have hB3:i<hn:=by omega
           clear hB
           go_wp2_with fail
           refine HMVD.out.mono ?_
           rintro e w7 ⟨rfl,rfl⟩
           go_wp2_with fail
           go_roundw
           case rel=>exact⟨i+1,by go_num,HLTi.out,HF.out.1,HF.out.2.1,HF.out.2.2.1,HF.out.2.2.2⟩
           case measure=>have:=HLTi.out; simp [intOf]; omega
        ·obtain rfl:i=nl.length:=by omega
         rw [HE1.out] at HR
         rw [HE2.out,← HCN.out] at HC
         have hRd:=HR.out.reads HR.out.lt
         rw [u32s_len,Ob.ws_len,relob_len,hfl] at hRd
         have HRd:=Lib.hid hRd
         have hWL:(0 :: wsOf ((colL h l).take k)).length≤1048576:=by
          rw [List.length_cons]
          have h1:(wsOf ((colL h l).take k)).length≤(wsOf (colL h l)).length:=wsOf_sub (List.take_sublist k _)
          have h2:=colL_words h l
          have h3:=HG.out.fit.room
          have h4:=HG.out.fit.hi
          rw [HG.out.laid.words,List.length_cons] at h3
          omega
         have HWN:=Lib.hid (show 0 :: wsOf ((colL h l).take (k+1))=(0 :: wsOf ((colL h l).take k))++(relob (planM h l) (voidM h l) b).ws by
          rw [HCL.out,wsOf_app,wsOf_cons,wsOf_nil,List.append_nil]
          rfl)
         have n0:=HC.out.n.cell 0
         have hbz:=HB.out.size
         have HNL:=Lib.hid (show (relob (planM h l) (voidM h l) b).ws.length=3+fl by rw [Ob.ws_len,relob_len,hfl])
         generalize (relob (planM h l) (voidM h l) b).ws=nws at *
         generalize 0 :: wsOf ((colL h l).take k)=wsk at *
         clear hlt hi hRd
         obtain⟨Aw,cw,hvw⟩:=own_val HC.out.ow
         subst hvw
         go_wp2_with (at_builtin; refine wpList_append_any _ rfl (.tmp 150) (.tmp 151) _ rfl w2.heap.size 32 k0 _ 1 4 Tryz.underlying84 hk0 hy0 hy1 hy2 rfl (by omega) (.slice Aw wsk.length cw) wsk.length _ rfl HC.out.ow wr.heap.size (some ⟨go,0,none⟩) (3+fl) _ (u32s nws) rfl HRd.out (one_u32s _) (by simp only [maxLen]; omega) (by omega) (by omega) ?_; intro v3 w3' hown3 hgrow3 hat3; have hg3:=HC.out.grow_w (ns:=nws) (by rw [HNL.out]; exact hown3) hgrow3 hat3 HB.out hbz; have HG3:=Lib.hid hg3; have hz3:=hg3.2.2.1; have hc3:=hg3.2.2.2; obtain⟨A3',c3',rfl⟩:=own_val hown3; clear hown3 hgrow3 hat3 hg3)
         go_roundw
         case rel=>exact⟨k+1,_,by go_num,HLT.out,by rw [HWN.out]; exact HG3.out.1,HG3.out.2.1⟩
         case measure=>have:=HLT.out; simp [intOf]; omega
      --E5
      ·obtain rfl:k=(planM h l).length:=by omega
       have hkz:(colL h l).take (planM h l).length=colL h l:=List.take_of_length_le (by rw [colL_len,← HPK.out]; exact Nat.le_refl _)
       have hkk:(keepZ h l).take (planM h l).length=keepZ h l:=List.take_of_length_le (by rw [← HPK.out]; exact Nat.le_refl _)
       rw [hkz,hkk] at HCS
       have hLW:(0 :: wsOf (colL h l)).length≤h.words.length:=col_room HG.out
       have hfr:(h.words.length:Int)-((0 :: wsOf (colL h l)).length:Int)=((h.words.length-(0 :: wsOf (colL h l)).length:Nat):Int):=by omega
       have HFR:=Lib.hid hfr
       have HVAL:=Lib.hid (show colV h l = .agg #[.int .i64 ((planM h l).length:Int),.int .i64 (a1:Int),.int .i64 ((h.words.length-(0 :: wsOf (colL h l)).length:Nat):Int),.int .i64 ((mvd (planM h l):Nat):Int),.int .i64 ((clrN (planM h l) (keepZ h l):Nat):Int)] from by
        have h1:(planM h l).length=(liveO h l).length:=by
         have:=congrArg List.length (planM_fst h l)
         rw [List.length_map] at this
         exact this
        unfold colV
        rw [← HSUB.out,h1,List.length_cons,Nat.add_comm (wsOf (colL h l)).length 1]
        rfl)
       have HHW:=Lib.hid (show (colH h l).words=0 :: wsOf (colL h l) from rfl)
       have HHR:=Lib.hid (show (colH h l).roots=h.roots.map (whereM (planM h l)) from rfl)
       generalize 0 :: wsOf (colL h l)=wsk at *
       generalize clrN (planM h l) (keepZ h l)=CN at *
       generalize h.roots.map (whereM (planM h l))=rs at *
       generalize mvd (planM h l)=MV at *
       clear hkz hkk hlt hk hfr
       obtain⟨Aw,cw,hvw⟩:=own_val HCS.out.ow
       subst hvw
       have n0:=HCS.out.n.cell 0
       have s0:=(HST.out wr HB.out).1.cell 0
       have k2:=HCS.out.c.cell 2
       have z2:=HCS.out.c.frozen 2
       go_upto_region 36 with fail
       rw [HFR.out]
       generalize h.words.length-wsk.length=FV at *
       have hset:∀ g,g≠gc→(wr.setCell ⟨gc,2,none⟩ (.int .i64 (FV:Int))).heap[g]? = wr.heap[g]? :=fun g hg=>Below.heap_setCell wr ⟨gc,2,none⟩ _ g hg
       have HN:=Lib.hid (HCS.out.n.same (hset gn (HCS.out.n.ne_ HCS.out.c (by decide))))
       have HCc:=Lib.hid (show Blk (wr.setCell ⟨gc,2,none⟩ (.int .i64 (FV:Int))) gc 62 #[.int .i64 ((planM h l).length:Int),.int .i64 (a1:Int),.int .i64 (FV:Int),.int .i64 (MV:Int),.int .i64 (CN:Int)] from HCS.out.c.set_ 2 _)
       have HOw:=Lib.hid (own_keep HCS.out.ow (fun q hq=>hset q (fun e=>own_ne_blk HCS.out.ow HCS.out.c (by decide) (e ▸ hq))))
       have HOr:=Lib.hid (own_keep HCS.out.or (fun q hq=>hset q (fun e=>own_ne_blk HCS.out.or HCS.out.c (by decide) (e ▸ hq))))
       have HB35:=Lib.hid (show Below w2.heap.size w2 (wr.setCell ⟨gc,2,none⟩ (.int .i64 (FV:Int))) from HB.out.setCell (p:=⟨gc,2,none⟩) HCS.out.hc _)
       have HGE:=Lib.hid (And.intro HCS.out.hc HCS.out.hn)
       clear hset n0 s0 k2 z2 HCS HB
       generalize wr.setCell ⟨gc,2,none⟩ (.int .i64 (FV:Int))=w35 at *
       obtain⟨Ar,cr,hvr⟩:=own_val HOr.out
       subst hvr
       refine wp_region_U 3 (fun w'=>w'.cell? ⟨gn,0,none⟩=some (.slice Aw wsk.length cw)∧w'.cell? ⟨gn,1,none⟩=some (.slice Ar rs.length cr)∧w'.cell? ⟨gc,0,none⟩=some (.int .i64 ((planM h l).length:Int))∧w'.cell? ⟨gc,1,none⟩=some (.int .i64 (a1:Int))∧w'.cell? ⟨gc,2,none⟩=some (.int .i64 (FV:Int))∧w'.cell? ⟨gc,3,none⟩=some (.int .i64 (MV:Int))∧w'.cell? ⟨gc,4,none⟩=some (.int .i64 (CN:Int))) (by kernel_rfl) ?_
       have hbd:Below w35.heap.size w35 w35.drew:=below_drew (Below.refl _ _)
       have HNq:=Lib.hid (HN.out.below hbd HN.out.lt)
       have HCq:=Lib.hid (HCc.out.below hbd HCc.out.lt)
       have HOw:=Lib.hid (own_below HOw.out hbd)
       have HOr:=Lib.hid (own_below HOr.out hbd)
       have HBq:=Lib.hid (below_top HB35.out hbd)
       clear hbd HN HCc HB35
       generalize w35.drew=wq at *
       have hS:wq.cell? ⟨gn,0,none⟩=some (.slice Aw wsk.length cw)∧wq.cell? ⟨gn,1,none⟩=some (.slice Ar rs.length cr)∧wq.cell? ⟨gc,0,none⟩=some (.int .i64 ((planM h l).length:Int))∧wq.cell? ⟨gc,1,none⟩=some (.int .i64 (a1:Int))∧wq.cell? ⟨gc,2,none⟩=some (.int .i64 (FV:Int))∧wq.cell? ⟨gc,3,none⟩=some (.int .i64 (MV:Int))∧wq.cell? ⟨gc,4,none⟩=some (.int .i64 (CN:Int)):=⟨HNq.out.cell 0,HNq.out.cell 1,HCq.out.cell 0,HCq.out.cell 1,HCq.out.cell 2,HCq.out.cell 3,HCq.out.cell 4⟩
       have hr1:=(HST.out wq HBq.out).2.1
       have hr2:=(HST.out wq HBq.out).2.2.1
       have r10:=hr1.cell 0
       have r11:=hr1.cell 1
       have f10:=hr1.frozen 0
       have f11:=hr1.frozen 1
       refine U_read 0 (v:=(.agg #[.slice Aw wsk.length cw,.slice Ar rs.length cr])) rfl (by kernel_rfl) (fun _ _ _ h=>h) hS (by rfl) (fun w' hw'=>by obtain⟨h0,h1,h2,h3,h4,h5,h6⟩:=hw'; go_simp) ?_
       try simp only [Act.put,List.setIfInBounds_toArray,List.set_cons_zero,List.set_cons_succ]
       refine U_read 1 (v:=(.agg #[.int .i64 ((planM h l).length:Int),.int .i64 (a1:Int),.int .i64 (FV:Int),.int .i64 (MV:Int),.int .i64 (CN:Int)])) rfl (by kernel_rfl) (fun _ _ _ h=>h) hS (by rfl) (fun w' hw'=>by obtain⟨h0,h1,h2,h3,h4,h5,h6⟩:=hw'; go_simp) ?_
       try simp only [Act.put,List.setIfInBounds_toArray,List.set_cons_zero,List.set_cons_succ]
       refine U_one 2 (by kernel_rfl) rfl rfl (fun K hK=>?_)
       go_simp
       have hs6:∀ g,g≠w.heap.size+1→((wq.setCell ⟨w.heap.size+1,0,none⟩ (.slice Aw wsk.length cw)).setCell ⟨w.heap.size+1,1,none⟩ (.slice Ar rs.length cr)).heap[g]? = wq.heap[g]? :=fun g hg=>(Below.heap_setCell _ ⟨w.heap.size+1,1,none⟩ _ g hg).trans (Below.heap_setCell wq ⟨w.heap.size+1,0,none⟩ _ g hg)
       have H1:=Lib.hid (show Blk ((wq.setCell ⟨w.heap.size+1,0,none⟩ (.slice Aw wsk.length cw)).setCell ⟨w.heap.size+1,1,none⟩ (.slice Ar rs.length cr)) (w.heap.size+1) 280 #[.slice Aw wsk.length cw,.slice Ar rs.length cr] from (hr1.set_ 0 _).set_ 1 _)
       have hg1:=HGE.out.1
       have hg2:=HGE.out.2
       have HN6:=HNq.out.same (hs6 gn (by omega))
       have HC6:=HCq.out.same (hs6 gc (by omega))
       have H2:=Lib.hid (hr2.same (hs6 (w.heap.size+1+1) (by omega)))
       have HOw6:=Lib.hid (own_keep HOw.out (fun q hq=>hs6 q (by have:=(HOw.out.lt q hq).1; omega)))
       have HOr6:=Lib.hid (own_keep HOr.out (fun q hq=>hs6 q (by have:=(HOr.out.lt q hq).1; omega)))
       have HB6:=Lib.hid (show Below w.heap.size w ((wq.setCell ⟨w.heap.size+1,0,none⟩ (.slice Aw wsk.length cw)).setCell ⟨w.heap.size+1,1,none⟩ (.slice Ar rs.length cr)) from (((HST.out wq HBq.out).2.2.2.2).setCell (p:=⟨w.heap.size+1,0,none⟩) (Nat.le_succ _) _).setCell (p:=⟨w.heap.size+1,1,none⟩) (Nat.le_succ _) _)
       have hS6:=And.intro (HN6.cell 0) (And.intro (HN6.cell 1) (And.intro (HC6.cell 0) (And.intro (HC6.cell 1) (And.intro (HC6.cell 2) (And.intro (HC6.cell 3) (HC6.cell 4))))))
       clear hs6 hr1 hr2 r10 r11 f10 f11 hS HNq HCq HOw HOr HBq hg1 hg2 HN6 HC6
       generalize (wq.setCell ⟨w.heap.size+1,0,none⟩ (.slice Aw wsk.length cw)).setCell ⟨w.heap.size+1,1,none⟩ (.slice Ar rs.length cr)=w36 at *
       refine hK _ _ (fun _=>hS6) ?_
       clear hK K
       try simp only [Act.put,List.setIfInBounds_toArray,List.set_cons_zero,List.set_cons_succ]
       clear hS6
       have q0:=H2.out.cell 0
       have q1:=H2.out.cell 1
       have q2:=H2.out.cell 2
       have q3:=H2.out.cell 3
       have q4:=H2.out.cell 4
       have f0:=H2.out.frozen 0
       have f1:=H2.out.frozen 1
       have f2:=H2.out.frozen 2
       have f3:=H2.out.frozen 3
       have f4:=H2.out.frozen 4
       refine U_one 3 (by kernel_rfl) rfl rfl (fun K hK=>?_)
       go_simp
       refine hK _ _ (fun h=>absurd h (by decide)) ?_
       clear hK K
       try simp only [Act.put,List.setIfInBounds_toArray,List.set_cons_zero,List.set_cons_succ]
       refine U_done (by kernel_rfl) ?_ _
       simp only [Calm,Exit.then]
       clear q0 q1 q2 q3 q4 f0 f1 f2 f3 f4
       have hs7:∀ g,g≠w.heap.size+1+1→(((((w36.setCell ⟨w.heap.size+1+1,0,none⟩ (.int .i64 ((planM h l).length:Int))).setCell ⟨w.heap.size+1+1,1,none⟩ (.int .i64 (a1:Int))).setCell ⟨w.heap.size+1+1,2,none⟩ (.int .i64 (FV:Int))).setCell ⟨w.heap.size+1+1,3,none⟩ (.int .i64 (MV:Int))).setCell ⟨w.heap.size+1+1,4,none⟩ (.int .i64 (CN:Int))).heap[g]? = w36.heap[g]? :=fun g hg=>(Below.heap_setCell _ ⟨w.heap.size+1+1,4,none⟩ _ g hg).trans ((Below.heap_setCell _ ⟨w.heap.size+1+1,3,none⟩ _ g hg).trans ((Below.heap_setCell _ ⟨w.heap.size+1+1,2,none⟩ _ g hg).trans ((Below.heap_setCell _ ⟨w.heap.size+1+1,1,none⟩ _ g hg).trans (Below.heap_setCell w36 ⟨w.heap.size+1+1,0,none⟩ _ g hg))))
       have H7:=H1.out.same (hs7 _ (by omega))
       have H8:Blk (((((w36.setCell ⟨w.heap.size+1+1,0,none⟩ (.int .i64 ((planM h l).length:Int))).setCell ⟨w.heap.size+1+1,1,none⟩ (.int .i64 (a1:Int))).setCell ⟨w.heap.size+1+1,2,none⟩ (.int .i64 (FV:Int))).setCell ⟨w.heap.size+1+1,3,none⟩ (.int .i64 (MV:Int))).setCell ⟨w.heap.size+1+1,4,none⟩ (.int .i64 (CN:Int))) (w.heap.size+1+1) 62 #[.int .i64 ((planM h l).length:Int),.int .i64 (a1:Int),.int .i64 (FV:Int),.int .i64 (MV:Int),.int .i64 (CN:Int)]:=((((H2.out.set_ 0 _).set_ 1 _).set_ 2 _).set_ 3 _).set_ 4 _
       have HOw7:=Lib.hid (own_keep HOw6.out (fun q hq=>hs7 q (by have:=(HOw6.out.lt q hq).1; omega)))
       have HOr7:=Lib.hid (own_keep HOr6.out (fun q hq=>hs7 q (by have:=(HOr6.out.lt q hq).1; omega)))
       have hbz:w.heap.size≤w.heap.size+1+1:=by omega
       have HB7:=Lib.hid (show Below w.heap.size w (((((w36.setCell ⟨w.heap.size+1+1,0,none⟩ (.int .i64 ((planM h l).length:Int))).setCell ⟨w.heap.size+1+1,1,none⟩ (.int .i64 (a1:Int))).setCell ⟨w.heap.size+1+1,2,none⟩ (.int .i64 (FV:Int))).setCell ⟨w.heap.size+1+1,3,none⟩ (.int .i64 (MV:Int))).setCell ⟨w.heap.size+1+1,4,none⟩ (.int .i64 (CN:Int))) from ((((HB6.out.setCell (p:=⟨w.heap.size+1+1,0,none⟩) hbz _).setCell (p:=⟨w.heap.size+1+1,1,none⟩) hbz _).setCell (p:=⟨w.heap.size+1+1,2,none⟩) hbz _).setCell (p:=⟨w.heap.size+1+1,3,none⟩) hbz _).setCell (p:=⟨w.heap.size+1+1,4,none⟩) hbz _)
       have a0:=H7.cell 0
       have a2:=H7.cell 1
       have e0:=H8.cell 0
       have e1:=H8.cell 1
       have e2:=H8.cell 2
       have e3:=H8.cell 3
       have e4:=H8.cell 4
       clear hs7 H1 H2 HOw6 HOr6 HB6 H7 H8 HOw HOr x0 x1
       generalize (((((w36.setCell ⟨w.heap.size+1+1,0,none⟩ (.int .i64 ((planM h l).length:Int))).setCell ⟨w.heap.size+1+1,1,none⟩ (.int .i64 (a1:Int))).setCell ⟨w.heap.size+1+1,2,none⟩ (.int .i64 (FV:Int))).setCell ⟨w.heap.size+1+1,3,none⟩ (.int .i64 (MV:Int))).setCell ⟨w.heap.size+1+1,4,none⟩ (.int .i64 (CN:Int)))=w37 at *
       go_wp2_with fail
       have a0':w37.cell? ⟨w.heap.size+1,0,none⟩=some (.slice Aw wsk.length cw):=a0
       have a2':w37.cell? ⟨w.heap.size+1,1,none⟩=some (.slice Ar rs.length cr):=a2
       have e0':w37.cell? ⟨w.heap.size+1+1,0,none⟩=some (.int .i64 ((planM h l).length:Int)):=e0
       have e1':w37.cell? ⟨w.heap.size+1+1,1,none⟩=some (.int .i64 (a1:Int)):=e1
       have e2':w37.cell? ⟨w.heap.size+1+1,2,none⟩=some (.int .i64 (FV:Int)):=e2
       have e3':w37.cell? ⟨w.heap.size+1+1,3,none⟩=some (.int .i64 (MV:Int)):=e3
       have e4':w37.cell? ⟨w.heap.size+1+1,4,none⟩=some (.int .i64 (CN:Int)):=e4
       clear a0 a2 e0 e1 e2 e3 e4
       refine bodyPost_ret (v:=.tuple #[.agg #[.slice Aw wsk.length cw,.slice Ar rs.length cr],.agg #[.int .i64 ((planM h l).length:Int),.int .i64 (a1:Int),.int .i64 (FV:Int),.int .i64 (MV:Int),.int .i64 (CN:Int)]]) (by simp [results,Tryz.results185,go_sem,a0',a2',e0',e1',e2',e3',e4']) rfl ?_
       have hbz2:w.heap.size≤w2.heap.size:=by omega
       exact⟨_,_,by rw [HVAL.out],by rw [HHW.out]; exact own_base HOw7.out hbz2,by rw [HHR.out]; exact own_base HOr7.out hbz2,HB7.out⟩
end
end
section
open Go.RowKit Go.Sort
attribute [local go_sem] Oper.semAt_some
theorem own_readsN {w:World} {base n:Nat} {v:Value} {xs:List Nat} {e:TypeId} (h:w.ownsRow base e 1 v n (u32s xs)):∃ A c,v = .slice A n c∧Reads w w.heap.size 1 A n (u32s xs)∧n≤9223372036854775807:=by
 by_cases h0:0<n
 ·obtain⟨A,c,hv,hr⟩:=own_readsK h h0
  refine⟨A,c,hv,hr,?_⟩
  rcases h.2 with ⟨rfl,h2⟩ | ⟨g,cap,cur,_,_,_,h4,h5,_⟩
  ·omega
  ·simp only [maxLen] at h5
   omega
 ·obtain⟨A,c,hv⟩:=own_val h
  have h1:=h.1
  refine⟨A,c,hv,⟨by omega,fun h2=>absurd h2 h0⟩,by omega⟩
section
variable {W:World}
end
end
section
open Go.RowKit Go.Sort
attribute [local go_sem] Oper.semAt_some
theorem own_readsV {w:World} {base n c:Nat} {A:Option Addr} {xs:List Nat} {e:TypeId} (h:w.ownsRow base e 1 (.slice A n c) n (u32s xs)):Reads w w.heap.size 1 A n (u32s xs)∧n≤9223372036854775807:=by
 obtain⟨A',c',hv,hr,hn⟩:=own_readsN h
 injection hv with h1 h2 h3
 subst h1
 exact⟨hr,hn⟩
theorem colV_ints (h:HM) (l:List Ob):∃ x0 x1 x2 x3 x4:Int,colV h l = .agg #[.int .i64 x0,.int .i64 x1,.int .i64 x2,.int .i64 x3,.int .i64 x4]:=⟨_,_,_,_,_,rfl⟩
theorem cells2K {w:World} {g:Nat} {t:TypeId} {a b:Value} (h:Blk w g t #[a,b]):w.cell? ⟨g,0,none⟩=some a∧w.cell? ⟨g,1,none⟩=some b:=⟨h.cell 0,h.cell 1⟩
end
section
open Go.RowKit
structure AkB where
 bT:Nat
 bB:Nat
 bX:Nat
 bY:Nat
 gT:Nat
 gB:Nat
section
variable {w w' w3:World} {B:Nat} {x:AkB} {vx vy:Value} {tl:List Nat} {bl:List Bool} {xs ys:List Nat}
end
end
section
open Go.RowKit Go.Sort
attribute [local go_sem] Oper.semAt_some
section
variable {w:World} {B:Nat} {x:AkB} {vx vy:Value} {go:Nat→Nat} {X:List Nat} {N M:Nat}
end
end
section
open Go.RowKit Go.Sort
attribute [local go_sem] Oper.semAt_some
end
section
open Go.RowKit
section
variable {h:HM} {l:List Ob}
end
end
section
open Go.RowKit Go.Sort
attribute [local go_sem] Oper.semAt_some
end
section
open Go.RowKit Go.Sort
attribute [local go_sem] Oper.semAt_some
theorem isB_obj {h:HM} {l:List Ob} (G:h.Good l) {j:Nat} (hj:j<l.length):h.isB (2*posOf (l.take j))=true:=(G.laid.isB_iff _).2 ⟨l.take j,l[j],l.drop (j+1),split_at l j hj,rfl⟩
end
section
open Go.RowKit
section
variable {h:HM} {l:List Ob}
end
end
section
open Go.RowKit
section
variable {h:HM} {l:List Ob}
end
end
end Go.Proofs.YtlkahgagmfhdaaaGreatDoor
