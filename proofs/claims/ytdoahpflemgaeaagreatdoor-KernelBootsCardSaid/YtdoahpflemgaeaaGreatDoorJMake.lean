import Derived.Test.YtdoahpflemgaeaaGreatDoorJAlloc
import Derived.Test.YtdoahpflemgaeaaGreatDoorJCopy
import Derived.Test.YtdoahpflemgaeaaGreatDoorJBytesOf
import Derived.Test.YtdoahpflemgaeaaGreatDoorJLook
set_option linter.unusedVariables false
set_option linter.unusedSectionVars false
namespace Go.Proofs.YtdoahpflemgaeaaGreatDoor
section
open Go.RowKit
def makeX (c:Nat) (bs:List Nat):Hd:=⟨(bs.length+3) / 4,2,4*((bs.length+3) / 4)-bs.length,c,0⟩
def HM.makeE (h:HM) (c:Nat) (bs:List Nat):Nat:=if 262140<bs.length then 2 else h.allocE (makeX c bs)
def HM.makeH (h:HM) (c:Nat) (bs:List Nat):HM:=if h.makeE c bs=0 then h.pushH (makeX c bs) (packM bs) else h
def HM.makeV (h:HM) (c:Nat) (bs:List Nat):Value:=.tuple #[.int .u32 ((if h.makeE c bs=0 then 2*h.words.length else 0:Nat):Int),.int .i64 (h.makeE c bs)]
theorem info_u32_size:(Tryz.prog.info? 37).map (·.size)=some 1:=by kernel_rfl
theorem HM.allocE_le (h:HM) (x:Hd):h.allocE x≤4:=by unfold HM.allocE; split <;> (try split) <;> omega
theorem HAt.rewords {w w1:World} {p:HP} {h:HM} (H:HAt w p h) {ws:List Nat} (hr:Row w1 p.gw 37 p.cw (u32s ws)) (hg:w.grownBy w1 (some p.gw)) (hl:ws.length=h.words.length):
 HAt w1 p { h with words:=ws }∧Step p p w w1:=by
 obtain⟨hb,hw,hs,hrt⟩:=H
 have n1:p.g≠p.gw:=fun e=>Row.ne_blk hw hb (by decide) e.symm
 have n2:p.gs≠p.gw:=hs.ne_ hw (by decide)
 have n3:p.gr≠p.gw:=hrt.ne_ hw (by decide)
 have hb1:=hb.same (hg.block p.g hb.lt (by simpa using n1))
 have hs1:=hs.same (hg.block p.gs hs.lt (by simpa using n2))
 have hr1:=hrt.same (hg.block p.gr hrt.lt (by simpa using n3))
 refine⟨⟨by simpa only [hl] using hb1,hr,hs1,hr1⟩,hg.os,hg.tape,hg.output,hg.size,fun k hk hn=>hg.block k hk (by
  intro e; injection e with e; exact hn (.inr (.inl e))),rfl,fun k hk=> .inl hk⟩
theorem HM.pushH_re (h:HM) (x:Hd) (ys zs:List Nat) (hz:zs.length=ys.length):
 { h.pushH x ys with words:=(h.pushH x ys).words.take (h.words.length+3)++zs++(h.pushH x ys).words.drop (h.words.length+3+ys.length) }=h.pushH x zs:=by
 unfold HM.pushH
 dsimp only
 congr 1
 rw [List.take_append_of_le_length (by simp),List.take_of_length_le (by simp),List.drop_of_length_le (by simp; omega),List.append_nil]
theorem make_end {w w2 w3:World} {p p1:HP} {h:HM} {c:Nat} {bs:List Nat} {F L:Nat} (hL:h.words.length=L) (hpl:(packM bs).length=F)
 (H1:HAt w2 p1 (h.pushH (makeX c bs) (List.replicate F 0))) (s2:Step p p1 w w2)
 (hr:Row w3 p1.gw 37 p1.cw (List.take (L+3) (u32s (h.pushH (makeX c bs) (List.replicate F 0)).words)++u32s (packM bs)++List.drop (L+3+F) (u32s (h.pushH (makeX c bs) (List.replicate F 0)).words)))
 (hg:w2.grownBy w3 (some p1.gw)):HAt w3 p1 (h.pushH (makeX c bs) (packM bs))∧Step p p1 w w3:=by
 subst hL
 have e:List.take (h.words.length+3) (u32s (h.pushH (makeX c bs) (List.replicate F 0)).words)++u32s (packM bs)++List.drop (h.words.length+3+F) (u32s (h.pushH (makeX c bs) (List.replicate F 0)).words)
  = u32s ((h.pushH (makeX c bs) (List.replicate F 0)).words.take (h.words.length+3)++packM bs++(h.pushH (makeX c bs) (List.replicate F 0)).words.drop (h.words.length+3+F)):=by
  unfold u32s
  simp only [List.map_append,List.map_take,List.map_drop]
 rw [e] at hr
 obtain⟨H3,s3⟩:=H1.rewords hr hg (by simp [HM.pushH,hpl]; omega)
 have e2:=h.pushH_re (makeX c bs) (List.replicate F 0) (packM bs) (by simp [hpl])
 simp only [List.length_replicate] at e2
 rw [e2] at H3
 exact⟨H3,s2.trans s3⟩
set_option maxRecDepth 100000 in
set_option maxHeartbeats 4000000 in
theorem Make_any {w:World} {p:HP} {h:HM} (H:HAt w p h) (f:h.Fit) (hs:Spares w) (hp:Far p) (c:Nat) (hc:c<4294967296) (A:Option Addr) (n cap B:Nat) (bs:List Nat)
 (hn:n≤9223372036854775807) (hr:Reads w B 1 A n (u8c bs)) (hB:B≤w.heap.size) (hb:∀ x∈bs,x<256):
 Calls Tryz.prog 136 #[ptr p.g,.int .u32 c,.slice A n cap] w (Made p (h.makeH c bs) (h.makeV c bs) w):=by
 have hl:bs.length=n:=by have:=hr.1; simpa [u8c] using this
 by_cases hlong:262140<n
 ·have HF:=Lib.hid (show h.makeH c bs=h∧h.makeV c bs = .tuple #[.int .u32 0,.int .i64 2] by simp [HM.makeH,HM.makeV,HM.makeE,hl,hlong])
  have HP':=Lib.hid (packBytes_long (w:=w) A n cap hlong hn)
  clear hl
  unfold ptr
  go_enter Tryz.func136,Tryz.ntmps136
  go_wp2_with fail
  refine HP'.out.mono ?_
  rintro e w1 ⟨rfl,rfl⟩
  go_wp2_with fail
  go_ret2
  exact⟨p,by rw [HF.out.2]; rfl,by rw [HF.out.1]; exact H,Step.refl _ _⟩
 ·have HPK:=Lib.hid (packBytes_any (w:=w) A n cap B bs (by omega) hr hB hb)
  have hF:(bs.length+3) / 4≤65535:=by omega
  have hE:h.makeE c bs=h.allocE (makeX c bs):=by simp [HM.makeE,hl,hlong]
  have hVA:h.allocV (makeX c bs) = .tuple #[.int .u32 ((if h.allocE (makeX c bs)=0 then 2*h.words.length else 0:Nat):Int),.int .i64 (h.allocE (makeX c bs))]:=rfl
  have hfit:(makeX c bs).Fit:=⟨by simp [makeX]; omega,by simp [makeX],by simp [makeX]; omega,hc,by simp [makeX]⟩
  have hmay:(makeX c bs).may=true:=by
   have h1:=hF
   unfold makeX Hd.may
   dsimp only
   simp only [Bool.and_eq_true,Bool.or_eq_true,decide_eq_true_eq]
   refine⟨⟨⟨h1,by omega⟩,by omega⟩,?_⟩
   by_cases h0:4*((bs.length+3) / 4)-bs.length=0
   ·exact .inl h0
   ·exact .inr ⟨trivial,by omega⟩
  have HAL:=Lib.hid (fun w1 (hb1:Below w.heap.size w w1)=>alloc_any (H.below hb1) f (hs.below hb1) hp (makeX c bs) hfit rfl hmay)
  have hx:(makeX c bs).val = .agg #[.int .i64 ((bs.length+3) / 4:Nat),.int .i64 2,.int .i64 (4*((bs.length+3) / 4)-bs.length:Nat),.int .u32 c,.int .u32 0]:=rfl
  have HPL:=Lib.hid (packM_len bs)
  have hlt:∀ k,p.has k→k<w.heap.size:=fun k hk=>H.lt hk
  have hle:=h.allocE_le (makeX c bs)
  rw [hx,hVA] at HAL
  clear hx hVA
  by_cases hE0:h.allocE (makeX c bs)=0
  ·have hroom:h.words.length+3+(bs.length+3) / 4≤h.size:=by
    unfold HM.allocE at hE0
    split at hE0
    ·omega
    ·split at hE0
     ·omega
     ·rename_i h2; simp only [makeX] at h2; omega
   have HF:=Lib.hid (show h.makeH c bs=h.pushH (makeX c bs) (packM bs)∧h.makeV c bs = .tuple #[.int .u32 (2*h.words.length:Nat),.int .i64 0] by simp [HM.makeH,HM.makeV,hE,hE0])
   have hAH:h.allocH (makeX c bs)=h.pushH (makeX c bs) (List.replicate ((bs.length+3) / 4) 0):=by
    have e:h.fill (makeX c bs)=0:=by simp [HM.fill,makeX,Hd.ptrB]
    unfold HM.allocH
    rw [if_pos hE0,e]
    rfl
   rw [hE0,hAH] at HAL
   simp only [if_true] at HAL
   clear hE0 hE hAH hle hfit hmay
   have hhi:=f.hi
   have hone:=f.one
   generalize hFe:(bs.length+3) / 4=F at *
   have HFE:=Lib.hid hFe
   clear hFe
   have HAT:=Lib.hid (fun w=>at_any p.g (2*h.words.length) (by omega) ((objB_iff _).2 ⟨by omega,by omega⟩) w)
   rw [show 2*h.words.length / 2=h.words.length by omega,show ((2*h.words.length:Nat):Int)=2*(h.words.length:Int) by omega] at HAT
   generalize hL:h.words.length=L at *
   have HLW:=Lib.hid hL
   clear hL hl
   unfold ptr at HAL HAT ⊢
   go_enter Tryz.func136,Tryz.ntmps136
   go_wp2_with fail
   refine HPK.out.mono ?_
   rintro e w1 ⟨g,rfl,hrow,hge,hb1⟩
   rw [HPL.out] at hrow ⊢
   rw [HFE.out]
   go_wp2_with fail
   refine (HAL.out w1 hb1).mono ?_
   rintro e w2 ⟨p1,rfl,H1,s1⟩
   have hrow2:Row w2 g 37 F (u32s (packM bs)):=hrow.same (s1.block g hrow.lt (fun hh=>by have:=hlt g hh; omega))
   have s2:=(Step.of_below (p:=p) hb1).trans s1
   have hg1:=s1.g
   have hlen1:(h.pushH (makeX c bs) (List.replicate F 0)).words.length=L+3+F:=by simp [HM.pushH,HLW.out]; omega
   have c0:=H1.c0
   simp only [hlen1] at c0
   rw [hg1] at c0
   go_wp2_with fail
   have hFb:F≤65535:=hF
   have hcs:L+3+F≤p1.cw:=by obtain⟨_,_,h1,_⟩:=H1.2.1; rw [u32s_len] at h1; omega
   have hcm:p1.cw≤9223372036854775807:=by obtain⟨_,_,_,h1,_⟩:=H1.2.1; unfold maxLen at h1; exact h1
   have hLr:L+3+F≤1048576:=by omega
   have a1:IntKind.i64.wrap ((L:Int)+3)=(L:Int)+3:=IntWalk.i64_in _ (by omega)
   have a2:((L:Int)+3).toNat=L+3:=by omega
   have a3:(0:Int)≤(L:Int)+3:=by omega
   have a4:(L:Int)+3≤((L+3+F:Nat):Int):=by omega
   have a6:(L:Int)+3≤(L:Int)+3+(F:Int):=by omega
   have a5:L+3+F-(L+3)=F:=by omega
   have hws:(u32s (h.pushH (makeX c bs) (List.replicate F 0)).words).length=L+3+F:=by rw [u32s_len,hlen1]
   have HWS:=Lib.hid hws
   have HH1:=Lib.hid H1
   have HRW:=Lib.hid hrow2
   have HLEN:=Lib.hid hlen1
   have HG1:=Lib.hid hg1
   have HPLF:=Lib.hid (show (u32s (packM bs)).length=F by rw [u32s_len]; exact HPL.out)
   clear H1 hrow hrow2 hlen1 hws hg1 s1 hroom
   by_cases hcap:p1.cw=L+3
   ·have hF0:F=0:=by omega
    subst hF0
    have b1:(L:Int)+3≤((L+3:Nat):Int):=by omega
    have b2:(L:Int)+3≤(L:Int)+3:=by omega
    have b3:L+3-(L+3)=0:=by omega
    go_region_law (first
     | (refine step_copy_tail (by rfl) _ _ _ _ (by rfl) (show Row _ p1.gw 37 p1.cw _ from HH1.out.2.1) 37 (L+3) 0 _ _ ⟨g,0,none⟩ 0 0 (u32s (packM bs)) Tryz.underlying54 info_u32_size (fun h0=>by omega) HPLF.out (Nat.le_refl _) (by rw [HWS.out]; omega) (by intro j v hj; rw [WideShapes.add_plain,Nat.zero_add]; exact HRW.out.cell hj) (one_u32s _) (by rfl) (by rfl) ?_; intro w3 hrow3 hgrow3)
     | (go_simp; go_at_call 89; refine (HAT.out _).mono ?_; rintro e w' ⟨rfl,rfl⟩))
    all_goals go_wp2_with fail
    all_goals go_ret2
    all_goals have hgr:w2.grownBy w3 (some p1.gw):=⟨hgrow3.os,hgrow3.tape,hgrow3.output,hgrow3.size,hgrow3.block⟩
    all_goals obtain⟨H9,s9⟩:=make_end HLW.out HPL.out HH1.out s2 hrow3 hgr
    all_goals exact⟨p1,by rw [HF.out.2]; rfl,by rw [HF.out.1]; exact H9,s9⟩
   ·go_region_law (first
     | (refine step_copy_tail (by rfl) _ _ _ _ (by rfl) (show Row _ p1.gw 37 p1.cw _ from HH1.out.2.1) 37 (L+3) F _ _ ⟨g,0,none⟩ F F (u32s (packM bs)) Tryz.underlying54 info_u32_size (fun h0=>by rfl) HPLF.out (Nat.le_refl _) (by rw [HWS.out]; omega) (by intro j v hj; rw [WideShapes.add_plain,Nat.zero_add]; exact HRW.out.cell hj) (one_u32s _) (by rfl) (by rfl) ?_; intro w3 hrow3 hgrow3)
     | (go_simp; go_at_call 89; refine (HAT.out _).mono ?_; rintro e w' ⟨rfl,rfl⟩))
    all_goals go_wp2_with fail
    all_goals go_ret2
    all_goals have hgr:w2.grownBy w3 (some p1.gw):=⟨hgrow3.os,hgrow3.tape,hgrow3.output,hgrow3.size,hgrow3.block⟩
    all_goals obtain⟨H9,s9⟩:=make_end HLW.out HPL.out HH1.out s2 hrow3 hgr
    all_goals exact⟨p1,by rw [HF.out.2]; rfl,by rw [HF.out.1]; exact H9,s9⟩
  ·have HF:=Lib.hid (show h.makeH c bs=h∧h.makeV c bs = .tuple #[.int .u32 0,.int .i64 (h.allocE (makeX c bs))] by simp [HM.makeH,HM.makeV,hE,hE0])
   have hAH:h.allocH (makeX c bs)=h:=by unfold HM.allocH; rw [if_neg hE0]
   rw [hAH,if_neg hE0] at HAL
   have hE1:((h.allocE (makeX c bs):Int) != 0)=true:=by simp; omega
   have hE2:¬ ((h.allocE (makeX c bs):Int)=0):=by omega
   generalize hFe:(bs.length+3) / 4=F at *
   have HFE:=Lib.hid hFe
   clear hFe hAH hl hfit hmay hE
   generalize h.allocE (makeX c bs)=E at *
   unfold ptr at HAL ⊢
   go_enter Tryz.func136,Tryz.ntmps136
   go_wp2_with fail
   refine HPK.out.mono ?_
   rintro e w1 ⟨g,rfl,hrow,hge,hb1⟩
   rw [HPL.out] at hrow ⊢
   rw [HFE.out]
   go_wp2_with fail
   refine (HAL.out w1 hb1).mono ?_
   rintro e w2 ⟨p1,rfl,H1,s1⟩
   have s2:=(Step.of_below (p:=p) hb1).trans s1
   clear hrow s1
   go_wp2_with fail
   go_ret2
   exact⟨p1,by rw [HF.out.2]; rfl,by rw [HF.out.1]; exact H1,s2⟩
end
section
open Go.RowKit
structure Ob where
 x:Hd
 fs:List Nat
def Ob.ws (b:Ob):List Nat:=b.x.w0 :: b.x.cls :: b.x.ser :: b.fs
def Ob.ms (b:Ob):List Bool:=true :: List.replicate (2+b.fs.length) false
structure Ob.Ok (b:Ob):Prop where
 fit:b.x.Fit
 may:b.x.may=true
 size:b.x.size=b.fs.length
 f32:∀ f∈b.fs,f<4294967296
def wsOf (l:List Ob):List Nat:=l.flatMap Ob.ws
def msOf (l:List Ob):List Bool:=l.flatMap Ob.ms
def posOf (a:List Ob):Nat:=1+(wsOf a).length
structure HM.Laid (h:HM) (l:List Ob):Prop where
 words:h.words=0 :: wsOf l
 marks:h.starts=false :: msOf l
 ok:∀ b∈l,b.Ok
theorem Ob.ws_len (b:Ob):b.ws.length=3+b.fs.length:=by simp [Ob.ws]; omega
theorem Ob.ms_len (b:Ob):b.ms.length=3+b.fs.length:=by simp [Ob.ms]; omega
theorem wsOf_nil:wsOf []=[]:=rfl
theorem wsOf_cons (b:Ob) (l:List Ob):wsOf (b :: l)=b.ws++wsOf l:=rfl
theorem wsOf_app (a b:List Ob):wsOf (a++b)=wsOf a++wsOf b:=List.flatMap_append
theorem msOf_app (a b:List Ob):msOf (a++b)=msOf a++msOf b:=List.flatMap_append
theorem msOf_cons (b:Ob) (l:List Ob):msOf (b :: l)=b.ms++msOf l:=rfl
theorem msOf_len (l:List Ob):(msOf l).length=(wsOf l).length:=by
 induction l with
 | nil=>rfl
 | cons b l ih=>simp [msOf_cons,wsOf_cons,b.ws_len,b.ms_len,ih]
theorem posOf_snoc (a:List Ob) (b:Ob):posOf (a++[b])=posOf a+3+b.fs.length:=by
 simp [posOf,wsOf_app,wsOf_cons,wsOf_nil,b.ws_len]; omega
theorem mark_iff (l:List Ob) (i:Nat):(msOf l).getD i false=true↔∃ a b c,l=a++b :: c∧i=(wsOf a).length:=by
 induction l generalizing i with
 | nil=>simp [msOf]
 | cons b l ih=>
   rw [msOf_cons]
   by_cases h0:i=0
   ·subst h0
    exact⟨fun _=>⟨[],b,l,rfl,rfl⟩,fun _=>by simp [Ob.ms]⟩
   ·by_cases h1:i<b.ms.length
    ·constructor
     ·intro h
      rw [List.getD_eq_getElem?_getD,List.getElem?_append_left h1] at h
      obtain⟨j,rfl⟩ :∃ j,i=j+1:=⟨i-1,by omega⟩
      unfold Ob.ms at h
      rw [List.getElem?_cons_succ] at h
      have hj:j<2+b.fs.length:=by rw [b.ms_len] at h1; omega
      simp [hj] at h
     ·rintro⟨a,b',c,he,rfl⟩
      cases a with
      | nil=>exact absurd rfl h0
      | cons a0 a=>
        rw [List.cons_append] at he
        injection he with h2 h3
        subst h2
        simp [wsOf_cons,b.ws_len,b.ms_len] at h1
        omega
    ·rw [List.getD_eq_getElem?_getD,List.getElem?_append_right (by omega),← List.getD_eq_getElem?_getD,ih]
     constructor
     ·rintro⟨a,b',c,rfl,h2⟩
      refine⟨b :: a,b',c,rfl,?_⟩
      rw [wsOf_cons,List.length_append,b.ws_len,← h2,b.ms_len]
      rw [b.ms_len] at h1
      omega
     ·rintro⟨a,b',c,he,h2⟩
      cases a with
      | nil=>exact absurd h2 h0
      | cons a0 a=>
        rw [List.cons_append] at he
        injection he with h3 h4
        subst h3
        refine⟨a,b',c,h4,?_⟩
        rw [wsOf_cons,List.length_append,b.ws_len] at h2
        rw [b.ms_len]
        omega
theorem objB_pos (a:List Ob):objB (2*posOf a)=true:=(objB_iff _).2 ⟨by unfold posOf; omega,by omega⟩
theorem half_pos (a:List Ob):2*posOf a / 2=posOf a:=by omega
theorem getD_app_right {α:Type} (a b:List α) (n:Nat) (d:α):(a++b).getD (a.length+n) d=b.getD n d:=by
 rw [List.getD_eq_getElem?_getD,List.getElem?_append_right (by omega),Nat.add_sub_cancel_left,← List.getD_eq_getElem?_getD]
theorem getD_app_left {α:Type} (a b:List α) (n:Nat) (d:α) (h:n<a.length):(a++b).getD n d=a.getD n d:=by
 rw [List.getD_eq_getElem?_getD,List.getElem?_append_left h,← List.getD_eq_getElem?_getD]
section
variable {h:HM} {l a c:List Ob} {b:Ob}
theorem HM.Laid.isB_iff (L:h.Laid l) (o:Nat):h.isB o=true↔∃ a b c,l=a++b :: c∧o=2*posOf a:=by
 unfold HM.isB
 rw [Bool.and_eq_true,objB_iff,L.marks]
 constructor
 ·rintro⟨⟨h1,h2⟩,h3⟩
  obtain⟨j,hj⟩ :∃ j,o / 2=j+1:=⟨o / 2-1,by omega⟩
  rw [hj,List.getD_cons_succ] at h3
  obtain⟨a,b,c,h4,h5⟩:=(mark_iff _ _).1 h3
  exact⟨a,b,c,h4,by unfold posOf; omega⟩
 ·rintro⟨a,b,c,h4,rfl⟩
  refine⟨(objB_iff _).1 (objB_pos a),?_⟩
  rw [half_pos]
  unfold posOf
  rw [Nat.add_comm,List.getD_cons_succ]
  exact (mark_iff _ _).2 ⟨a,b,c,h4,rfl⟩
theorem HM.Laid.w_at (L:h.Laid (a++b :: c)) (j:Nat) (hj:j<3+b.fs.length):h.w (posOf a+j)=b.ws.getD j 0:=by
 unfold HM.w posOf
 rw [L.words,wsOf_app,wsOf_cons,Nat.add_assoc,Nat.add_comm 1,List.getD_cons_succ,getD_app_right,getD_app_left _ _ _ _ (by rw [b.ws_len]; exact hj)]
theorem HM.Laid.ok_at (L:h.Laid (a++b :: c)):b.Ok:=L.ok b (by simp)
theorem ws_0 (b:Ob):b.ws.getD 0 0=b.x.w0:=by unfold Ob.ws; rw [List.getD_cons_zero]
theorem ws_1 (b:Ob):b.ws.getD 1 0=b.x.cls:=by unfold Ob.ws; rw [List.getD_cons_succ,List.getD_cons_zero]
theorem ws_2 (b:Ob):b.ws.getD 2 0=b.x.ser:=by unfold Ob.ws; rw [List.getD_cons_succ,List.getD_cons_succ,List.getD_cons_zero]
theorem ws_f (b:Ob) (j:Nat):b.ws.getD (j+3) 0=b.fs.getD j 0:=by unfold Ob.ws; rw [List.getD_cons_succ,List.getD_cons_succ,List.getD_cons_succ]
theorem w0_lt {x:Hd} (k:x.Fit):x.w0<536870912:=by
 obtain⟨h1,h2,h3,_,_⟩:=k
 unfold Hd.w0
 omega
theorem unhd_ob (k:b.Ok):unhd b.x.w0 b.x.cls b.x.ser=b.x:=by
 obtain⟨⟨h1,h2,h3,h4,h5⟩,_,_,_⟩:=k
 obtain⟨⟨n,t,s,cl,r⟩,fs⟩:=b
 simp only [unhd,Hd.w0] at *
 congr 1 <;> omega
theorem HM.Laid.hd_at (L:h.Laid (a++b :: c)):h.hd (posOf a)=b.x:=by
 unfold HM.hd
 have e0:=L.w_at 0 (by omega)
 have e1:=L.w_at 1 (by omega)
 have e2:=L.w_at 2 (by omega)
 rw [Nat.add_zero] at e0
 rw [e0,e1,e2,ws_0,ws_1,ws_2]
 exact unhd_ob L.ok_at
theorem HM.Laid.f_at (L:h.Laid (a++b :: c)) (j:Nat) (hj:j<b.fs.length):fw h (2*posOf a) j=b.fs.getD j 0:=by
 unfold fw
 rw [half_pos,Nat.add_assoc,L.w_at _ (by omega),Nat.add_comm 3,ws_f]
theorem HM.Laid.words_len (L:h.Laid (a++b :: c)):h.words.length=posOf a+3+b.fs.length+(wsOf c).length:=by
 rw [L.words,wsOf_app,wsOf_cons]
 simp [posOf,b.ws_len]
 omega
theorem HM.Laid.hdAt_at (L:h.Laid (a++b :: c)):h.hdAt (posOf a):=by
 have k:=L.ok_at
 refine⟨?_,?_⟩
 ·rw [L.hd_at,L.words_len,k.size]; omega
 ·have e0:=L.w_at 0 (by omega)
  have e1:=L.w_at 1 (by omega)
  have e2:=L.w_at 2 (by omega)
  rw [Nat.add_zero] at e0
  rw [e0,e1,e2,ws_0,ws_1,ws_2]
  unfold okhd
  rw [unhd_ob k,k.may]
  exact (Bool.true_and _).trans (decide_eq_true (show b.x.w0<536870912 from w0_lt k.fit))
theorem HM.Laid.heads (L:h.Laid l):h.Heads:=by
 intro i hi
 rw [L.marks] at hi
 cases i with
 | zero=>simp at hi
 | succ j=>
   rw [List.getD_cons_succ] at hi
   obtain⟨a,b,c,rfl,rfl⟩:=(mark_iff _ _).1 hi
   have:=L.hdAt_at
   rwa [posOf,Nat.add_comm] at this
theorem HM.Laid.fields_at (L:h.Laid (a++b :: c)):h.fields (2*posOf a)=b.fs:=by
 unfold HM.fields
 rw [half_pos,L.hd_at,L.ok_at.size,L.words,wsOf_app,wsOf_cons]
 have:posOf a+3=(0 :: wsOf a++[b.x.w0,b.x.cls,b.x.ser]).length:=by simp [posOf]; omega
 rw [this]
 have e:0 :: (wsOf a++(b.ws++wsOf c))=(0 :: wsOf a++[b.x.w0,b.x.cls,b.x.ser])++(b.fs++wsOf c):=by simp [Ob.ws]
 rw [e,List.drop_left,List.take_left']
 rfl
end
theorem HM.isB_same {h h':HM} (hs:h'.starts=h.starts) (o:Nat):h'.isB o=h.isB o:=by unfold HM.isB; rw [hs]
theorem HM.clsB_same {h h':HM} (hs:h'.starts=h.starts) (o:Nat):h'.clsB o=h.clsB o:=by unfold HM.clsB; rw [HM.isB_same hs]
theorem HM.valB_same {h h':HM} (hs:h'.starts=h.starts) (o:Nat):h'.valB o=h.valB o:=by unfold HM.valB; rw [HM.isB_same hs]
def HM.Le (h h':HM):Prop:=∀ o,h.isB o=true→h'.isB o=true
theorem HM.Le.cls {h h':HM} (k:h.Le h') {o:Nat} (ho:h.clsB o=true):h'.clsB o=true:=by
 unfold HM.clsB at ho ⊢
 simp only [Bool.or_eq_true] at ho ⊢
 exact ho.imp_right (k o)
theorem HM.Le.val {h h':HM} (k:h.Le h') {o:Nat} (ho:h.valB o=true):h'.valB o=true:=by
 unfold HM.valB at ho ⊢
 simp only [Bool.or_eq_true] at ho ⊢
 exact ho.imp_right (k o)
theorem HM.le_of_starts {h h':HM} {x:List Bool} (hs:h'.starts=h.starts++x):h.Le h':=by
 intro o ho
 unfold HM.isB at ho ⊢
 rw [Bool.and_eq_true] at ho ⊢
 refine⟨ho.1,?_⟩
 have hl:o / 2<h.starts.length:=by
  rcases Nat.lt_or_ge (o / 2) h.starts.length with h1 | h1
  ·exact h1
  ·have:=ho.2; rw [List.getD_eq_getElem?_getD,List.getElem?_eq_none h1] at this; simp at this
 rw [hs,getD_app_left _ _ _ _ hl]
 exact ho.2
structure HM.Sound (h:HM) (l:List Ob):Prop where
 cls:∀ b∈l,h.clsB b.x.cls=true
 flds:∀ b∈l,b.x.ptrB=true→∀ f∈b.fs,h.valB f=true
 spare:∀ b∈l,b.x.fmt=2→spareE b.fs b.x.spare=0
 sers:∀ b∈l,1≤b.x.ser∧b.x.ser≤h.last
 nodup:(l.map (·.x.ser)).Nodup
 roots:∀ r∈h.roots,h.valB r=true
structure HM.Good (h:HM) (l:List Ob):Prop where
 fit:h.Fit
 laid:h.Laid l
 sound:h.Sound l
theorem HM.new_good {n:Nat} (h1:64≤n) (h2:n≤1048576) (hf:(HM.new n).Fit):(HM.new n).Good []:=
 ⟨hf,⟨rfl,rfl,fun _ h=>by cases h⟩,⟨fun _ h=>(by cases h),fun _ h=>(by cases h),fun _ h=>(by cases h),fun _ h=>(by cases h),List.nodup_nil,fun r hr=>by
   have:r=0:=List.eq_of_mem_replicate hr
   subst this
   rfl⟩⟩
theorem HM.Good.push {h:HM} {l:List Ob} (G:h.Good l) (x:Hd) (ys:List Nat) (hx:x.Fit) (hm:x.may=true) (hc:h.clsB x.cls=true)
 (hr:h.words.length+3+ys.length≤h.size) (hl:h.last<4294967295) (hs:x.size=ys.length) (h32:∀ f∈ys,f<4294967296)
 (hp:x.ptrB=true→∀ f∈ys,h.valB f=true) (hsp:x.fmt=2→spareE ys x.spare=0):
 (h.pushH x ys).Good (l++[⟨{ x with ser:=h.last+1 },ys⟩]):=by
 obtain⟨f,L,S⟩:=G
 have hle:h.Le (h.pushH x ys):=HM.le_of_starts (x:=true :: List.replicate (2+x.size) false) rfl
 refine⟨⟨f.lo,f.hi,?_,?_,?_,f.roots,?_,f.r32,?_⟩,⟨?_,?_,?_⟩,⟨?_,?_,?_,?_,?_,?_⟩⟩
 ·simp [HM.pushH]; omega
 ·simp [HM.pushH]; omega
 ·have:=f.marks; simp [HM.pushH,hs]; omega
 ·intro y hy
  have w0:=w0_lt hx
  simp only [HM.pushH,List.mem_append,List.mem_cons,List.not_mem_nil,or_false] at hy
  rcases hy with (hy | hy | hy | hy) | hy
  ·exact f.w32 y hy
  ·subst hy; omega
  ·subst hy; exact hx.cls
  ·subst hy; omega
  ·exact h32 y hy
 ·simp only [HM.pushH]; omega
 ·simp only [HM.pushH,L.words,wsOf_app,wsOf_cons,wsOf_nil,Ob.ws,List.append_nil,List.cons_append,List.nil_append,List.append_assoc]
  rfl
 ·simp only [HM.pushH,L.marks,msOf_app,msOf_cons,Ob.ms,List.cons_append,hs]
  simp [msOf]
 ·intro b hb
  simp only [List.mem_append,List.mem_cons,List.not_mem_nil,or_false] at hb
  rcases hb with hb | rfl
  ·exact L.ok b hb
  ·exact ⟨⟨hx.size,hx.fmt,hx.spare,hx.cls,by simp only; omega⟩,hm,hs,h32⟩
 ·intro b hb
  simp only [List.mem_append,List.mem_cons,List.not_mem_nil,or_false] at hb
  rcases hb with hb | rfl
  ·exact hle.cls (S.cls b hb)
  ·exact hle.cls hc
 ·intro b hb
  simp only [List.mem_append,List.mem_cons,List.not_mem_nil,or_false] at hb
  rcases hb with hb | rfl
  ·exact fun hpb y hy=>hle.val (S.flds b hb hpb y hy)
  ·exact fun hpb y hy=>hle.val (hp hpb y hy)
 ·intro b hb
  simp only [List.mem_append,List.mem_cons,List.not_mem_nil,or_false] at hb
  rcases hb with hb | rfl
  ·exact S.spare b hb
  ·exact hsp
 ·intro b hb
  simp only [List.mem_append,List.mem_cons,List.not_mem_nil,or_false] at hb
  rcases hb with hb | rfl
  ·have:=S.sers b hb; simp only [HM.pushH]; omega
  ·simp only [HM.pushH]; omega
 ·rw [List.map_append,List.nodup_append]
  refine⟨S.nodup,by simp,?_⟩
  intro s hs s' hs'
  simp only [List.map_cons,List.map_nil,List.mem_cons,List.not_mem_nil,or_false] at hs'
  subst hs'
  rw [List.mem_map] at hs
  obtain⟨b,hb,rfl⟩:=hs
  have:=S.sers b hb
  omega
 ·exact fun r hr=>hle.val (S.roots r hr)
theorem mid_map {α β:Type} (g:α→β) (a c:List α) (b b':α) (hb:g b'=g b):(a++b' :: c).map g=(a++b :: c).map g:=by simp [hb]
theorem mem_mid {α:Type} {a c:List α} {b b' x:α} (h:x∈a++b' :: c):x=b'∨x∈a++b :: c:=by
 simp only [List.mem_append,List.mem_cons] at h ⊢
 rcases h with h | h | h
 ·exact .inr (.inl h)
 ·exact .inl h
 ·exact .inr (.inr (.inr h))
theorem set_mid {α:Type} (xs ys zs:List α) (k:Nat) (v:α) (hk:k<ys.length):(xs++(ys++zs)).set (xs.length+k) v=xs++(ys.set k v++zs):=by
 rw [List.set_append_right _ _ (by omega),Nat.add_sub_cancel_left,List.set_append_left _ _ hk]
theorem HM.Laid.setAt {h:HM} {a c:List Ob} {b b':Ob} (L:h.Laid (a++b :: c)) (k v:Nat) (hk:k<3+b.fs.length) (hw:b'.ws=b.ws.set k v) (hb:b'.Ok):
 HM.Laid { h with words:=h.words.set (posOf a+k) v } (a++b' :: c):=by
 have hl:b'.fs.length=b.fs.length:=by have:=congrArg List.length hw; rw [List.length_set,b.ws_len,b'.ws_len] at this; omega
 refine⟨?_,?_,?_⟩
 ·show h.words.set (posOf a+k) v=_
  rw [L.words,wsOf_app,wsOf_app,wsOf_cons,wsOf_cons,hw]
  unfold posOf
  rw [Nat.add_assoc,Nat.add_comm 1,List.set_cons_succ,set_mid _ _ _ _ _ (by rw [b.ws_len]; exact hk)]
 ·show h.starts=_
  rw [L.marks,msOf_app,msOf_app,msOf_cons,msOf_cons]
  unfold Ob.ms
  rw [hl]
 ·intro y hy
  rcases mem_mid (b:=b) hy with rfl | hy
  ·exact hb
  ·exact L.ok y hy
theorem HM.Good.setAt {h:HM} {a c:List Ob} {b b':Ob} (G:h.Good (a++b :: c)) (k v:Nat) (hk:k<3+b.fs.length) (hv:v<4294967296) (hw:b'.ws=b.ws.set k v) (hb:b'.Ok)
 (h1:h.clsB b'.x.cls=true) (h2:b'.x.ptrB=true→∀ f∈b'.fs,h.valB f=true) (h3:b'.x.fmt=2→spareE b'.fs b'.x.spare=0) (h4:b'.x.ser=b.x.ser):
 HM.Good { h with words:=h.words.set (posOf a+k) v } (a++b' :: c):=by
 obtain⟨f,L,S⟩:=G
 have hs:HM.starts { h with words:=h.words.set (posOf a+k) v }=h.starts:=rfl
 refine⟨⟨f.lo,f.hi,?_,?_,?_,f.roots,?_,f.r32,f.l32⟩,L.setAt k v hk hw hb,⟨?_,?_,?_,?_,?_,?_⟩⟩
 ·have:=f.one; simpa using this
 ·have:=f.room; simpa using this
 ·have:=f.marks; simpa using this
 ·intro y hy
  rcases List.mem_or_eq_of_mem_set hy with hy | rfl
  ·exact f.w32 y hy
  ·exact hv
 ·intro y hy
  rw [HM.clsB_same hs]
  rcases mem_mid (b:=b) hy with rfl | hy
  ·exact h1
  ·exact S.cls y hy
 ·intro y hy hp g hg
  rw [HM.valB_same hs]
  rcases mem_mid (b:=b) hy with rfl | hy
  ·exact h2 hp g hg
  ·exact S.flds y hy hp g hg
 ·intro y hy
  rcases mem_mid (b:=b) hy with rfl | hy
  ·exact h3
  ·exact S.spare y hy
 ·intro y hy
  rcases mem_mid (b:=b) hy with rfl | hy
  ·rw [h4]; exact S.sers b (by simp)
  ·exact S.sers y hy
 ·rw [mid_map (fun o:Ob=>o.x.ser) a c b b' h4]; exact S.nodup
 ·intro r hr
  rw [HM.valB_same hs]
  exact S.roots r hr
theorem HM.Good.setF {h:HM} {a c:List Ob} {b:Ob} (G:h.Good (a++b :: c)) (k v:Nat) (hk:k<b.fs.length) (hv:v<4294967296)
 (h2:b.x.ptrB=true→h.valB v=true) (h3:b.x.fmt=2→spareE (b.fs.set k v) b.x.spare=0):
 (h.setF (2*posOf a) k v).Good (a++{ b with fs:=b.fs.set k v } :: c):=by
 have K:=G.laid.ok_at
 have e:h.setF (2*posOf a) k v={ h with words:=h.words.set (posOf a+(3+k)) v }:=by
  unfold HM.setF
  rw [half_pos,Nat.add_assoc]
 rw [e]
 refine G.setAt (3+k) v (by omega) hv ?_ ⟨K.fit,K.may,by simp [K.size],?_⟩ (G.sound.cls b (by simp)) ?_ h3 rfl
 ·show b.x.w0 :: b.x.cls :: b.x.ser :: b.fs.set k v=(b.x.w0 :: b.x.cls :: b.x.ser :: b.fs).set (3+k) v
  rw [Nat.add_comm,List.set_cons_succ,List.set_cons_succ,List.set_cons_succ]
 ·intro f hf
  rcases List.mem_or_eq_of_mem_set hf with hf | rfl
  ·exact K.f32 f hf
  ·exact hv
 ·intro hp f hf
  rcases List.mem_or_eq_of_mem_set hf with hf | rfl
  ·exact G.sound.flds b (by simp) hp f hf
  ·exact h2 hp
theorem HM.Good.setCls {h:HM} {a c:List Ob} {b:Ob} (G:h.Good (a++b :: c)) (v:Nat) (hv:v<4294967296) (h1:h.clsB v=true):
 HM.Good { h with words:=h.words.set (posOf a+1) v } (a++{ b with x:={ b.x with cls:=v } } :: c):=by
 have K:=G.laid.ok_at
 exact G.setAt 1 v (by omega) hv rfl ⟨⟨K.fit.size,K.fit.fmt,K.fit.spare,hv,K.fit.ser⟩,K.may,K.size,K.f32⟩ h1 (G.sound.flds b (by simp)) (G.sound.spare b (by simp)) rfl
theorem HM.Good.setRoot {h:HM} {l:List Ob} (G:h.Good l) (k v:Nat) (hv:v<4294967296) (h1:h.valB v=true):HM.Good { h with roots:=h.roots.set k v } l:=by
 obtain⟨f,L,S⟩:=G
 refine⟨⟨f.lo,f.hi,f.one,f.room,f.marks,?_,f.w32,?_,f.l32⟩,⟨L.words,L.marks,L.ok⟩,⟨S.cls,S.flds,S.spare,S.sers,S.nodup,?_⟩⟩
 ·have:=f.roots; simpa using this
 ·intro y hy
  rcases List.mem_or_eq_of_mem_set hy with hy | rfl
  ·exact f.r32 y hy
  ·exact hv
 ·intro r hr
  rcases List.mem_or_eq_of_mem_set hr with hr | rfl
  ·exact S.roots r hr
  ·exact h1
theorem bytesM_cons (y:Nat) (ys:List Nat):bytesM (y :: ys)=bytes4 y++bytesM ys:=rfl
theorem bytesM_app (xs ys:List Nat):bytesM (xs++ys)=bytesM xs++bytesM ys:=List.flatMap_append
theorem bytes4_word (a b c d:Nat) (ha:a<256) (hb:b<256) (hc:c<256) (hd:d<256):bytes4 (a+b*256+c*65536+d*16777216)=[a,b,c,d]:=by
 unfold bytes4
 have h1:(a+b*256+c*65536+d*16777216)%256=a:=by omega
 have h2:(a+b*256+c*65536+d*16777216) / 256%256=b:=by omega
 have h3:(a+b*256+c*65536+d*16777216) / 65536%256=c:=by omega
 have h4:(a+b*256+c*65536+d*16777216) / 16777216%256=d:=by omega
 rw [h1,h2,h3,h4]
theorem bytesM_words (bs:List Nat) (h:∀ x∈bs,x<256) (F:Nat):bytesM ((List.range F).map (wordAt bs))=(List.range (4*F)).map (fun i=>bs.getD i 0):=by
 induction F with
 | zero=>rfl
 | succ F ih=>
   have e:4*(F+1)=4*F+1+1+1+1:=by omega
   rw [List.range_succ,List.map_append,bytesM_app,ih,e,List.range_succ,List.range_succ,List.range_succ,List.range_succ]
   simp only [List.map_append,List.map_cons,List.map_nil,List.append_assoc]
   congr 1
   unfold wordAt
   rw [bytesM_cons,bytes4_word _ _ _ _ (getD_lt bs h _) (getD_lt bs h _) (getD_lt bs h _) (getD_lt bs h _)]
   rfl
theorem packM_eq (bs:List Nat):packM bs=(List.range ((bs.length+3) / 4)).map (wordAt bs):=by
 unfold packM packK
 rw [List.take_length]
theorem map_getD_range (bs:List Nat) (n:Nat) (h:bs.length≤n):(List.range n).map (fun i=>bs.getD i 0)=bs++List.replicate (n-bs.length) 0:=by
 apply List.ext_getElem
 ·simp; omega
 ·intro i h1 h2
  rw [List.getElem_map,List.getElem_range]
  rcases Nat.lt_or_ge i bs.length with hi | hi
  ·rw [List.getElem_append_left hi,List.getD_eq_getElem?_getD,List.getElem?_eq_getElem hi]; rfl
  ·rw [List.getElem_append_right hi,List.getD_eq_getElem?_getD,List.getElem?_eq_none hi]; simp
theorem bytesM_packM (bs:List Nat) (h:∀ x∈bs,x<256):bytesM (packM bs)=bs++List.replicate (4*((bs.length+3) / 4)-bs.length) 0:=by
 rw [packM_eq,bytesM_words bs h,map_getD_range bs _ (by omega)]
theorem spareE_packM (bs:List Nat) (h:∀ x∈bs,x<256):spareE (packM bs) (4*((bs.length+3) / 4)-bs.length)=0:=by
 unfold spareE
 rw [packM_len,bytesM_packM bs h,show 4*((bs.length+3) / 4)-(4*((bs.length+3) / 4)-bs.length)=bs.length by omega,List.drop_left,if_pos]
 rw [List.all_eq_true]
 intro x hx
 rw [List.eq_of_mem_replicate hx]
 rfl
section
variable {h:HM} {l:List Ob}
theorem HM.Good.allocH (G:h.Good l) (x:Hd) (hx:x.Fit) (hm:x.may=true) (h0:x.spare=0) (he:h.allocE x=0):
 (h.allocH x).Good (l++[⟨{ x with ser:=h.last+1 },List.replicate x.size (h.fill x)⟩]):=by
 have hE:=he
 have hl:h.last<4294967295:=by
  have:=G.fit.l32
  unfold HM.allocE at he
  split at he
  ·omega
  ·split at he <;> omega
 unfold HM.allocE at he
 split at he
 ·omega
 ·rename_i h1
  split at he
  ·omega
  ·rename_i h2
   unfold HM.allocH
   rw [if_pos hE]
   have hr0:h.valB (h.roots.getD 0 0)=true:=by
    apply G.sound.roots
    have:=G.fit.roots
    rw [List.getD_eq_getElem?_getD,List.getElem?_eq_getElem (by omega)]
    exact List.getElem_mem _
   refine G.push x _ hx hm (by simpa using h1) (by simp; omega) hl (by simp) ?_ ?_ (fun _=>by rw [h0]; exact spareE_zero _)
   ·intro f hf
    rw [List.eq_of_mem_replicate hf]
    unfold HM.fill
    split
    ·have:=G.fit.roots
     apply G.fit.r32
     rw [List.getD_eq_getElem?_getD,List.getElem?_eq_getElem (by omega)]
     exact List.getElem_mem _
    ·omega
   ·intro hp f hf
    rw [List.eq_of_mem_replicate hf,HM.fill,if_pos hp]
    exact hr0
theorem mkHd_ok {c:Nat} {f n:Int} (hc:c<4294967296) (h:allocOk f n=true):(mkHd c f n).Fit∧(mkHd c f n).may=true:=by
 unfold allocOk at h
 simp only [Bool.and_eq_true,decide_eq_true_eq] at h
 obtain⟨⟨⟨h1,h2⟩,h3⟩,h4⟩:=h
 unfold mkHd
 refine⟨⟨?_,?_,?_,hc,?_⟩,?_⟩
 ·simp only; omega
 ·simp only; omega
 ·simp only; omega
 ·simp only; omega
 ·unfold Hd.may
  simp only [Bool.and_eq_true,Bool.or_eq_true,decide_eq_true_eq]
  exact⟨⟨⟨by omega,by omega⟩,by omega⟩,.inl trivial⟩
theorem makeX_ok {c:Nat} {bs:List Nat} (hc:c<4294967296) (hn:bs.length≤262140):(makeX c bs).Fit∧(makeX c bs).may=true:=by
 have hF:(bs.length+3) / 4≤65535:=by omega
 unfold makeX
 refine⟨⟨?_,?_,?_,hc,?_⟩,?_⟩
 ·simp only; omega
 ·simp only; omega
 ·simp only; omega
 ·simp only; omega
 ·unfold Hd.may
  simp only [Bool.and_eq_true,Bool.or_eq_true,decide_eq_true_eq]
  refine⟨⟨⟨hF,by omega⟩,by omega⟩,?_⟩
  by_cases h0:4*((bs.length+3) / 4)-bs.length=0
  ·exact .inl h0
  ·exact .inr ⟨trivial,by omega⟩
theorem HM.Good.makeH (G:h.Good l) (c:Nat) (bs:List Nat) (hc:c<4294967296) (hb:∀ x∈bs,x<256) (he:h.makeE c bs=0):
 (h.makeH c bs).Good (l++[⟨{ makeX c bs with ser:=h.last+1 },packM bs⟩]):=by
 have hE:=he
 have hl:h.last<4294967295:=by
  have:=G.fit.l32
  unfold HM.makeE HM.allocE at he
  split at he
  ·omega
  ·split at he
   ·omega
   ·split at he <;> omega
 unfold HM.makeE at he
 split at he
 ·omega
 ·rename_i hn
  obtain⟨hx,hm⟩:=makeX_ok hc (by omega:bs.length≤262140)
  unfold HM.allocE at he
  split at he
  ·omega
  ·rename_i h1
   split at he
   ·omega
   ·rename_i h2
    unfold HM.makeH
    rw [if_pos hE]
    have hs:(makeX c bs).size=(packM bs).length:=by rw [packM_len]; rfl
    refine G.push (makeX c bs) _ hx hm (by simpa using h1) (by rw [← hs]; omega) hl hs ?_ (fun hp=>?_) (fun _=>spareE_packM bs hb)
    ·intro f hf
     rw [packM_eq,List.mem_map] at hf
     obtain⟨j,_,rfl⟩:=hf
     exact wordAt_lt bs hb j
    ·simp [Hd.ptrB,makeX] at hp
def HM.AllocE (h:HM) (c:Nat) (f n:Int):Nat:=if allocOk f n then h.allocE (mkHd c f n) else 1
theorem HM.AllocH_eq (h:HM) (c:Nat) (f n:Int):h.AllocH c f n=if h.AllocE c f n=0 then h.pushH (mkHd c f n) (List.replicate (mkHd c f n).size (h.fill (mkHd c f n))) else h:=by
 unfold HM.AllocH HM.AllocE HM.allocH
 split
 ·rfl
 ·rfl
theorem HM.Good.AllocH (G:h.Good l) (c:Nat) (f n:Int) (hc:c<4294967296):∃ l',(h.AllocH c f n).Good l':=by
 unfold HM.AllocH
 by_cases hok:allocOk f n=true
 ·rw [if_pos hok]
  by_cases he:h.allocE (mkHd c f n)=0
  ·obtain⟨hx,hm⟩:=mkHd_ok hc hok
   exact⟨_,G.allocH _ hx hm rfl he⟩
  ·unfold HM.allocH
   rw [if_neg he]
   exact⟨l,G⟩
 ·rw [if_neg hok]; exact⟨l,G⟩
theorem HM.Good.MakeH (G:h.Good l) (c:Nat) (bs:List Nat) (hc:c<4294967296) (hb:∀ x∈bs,x<256):∃ l',(h.makeH c bs).Good l':=by
 by_cases he:h.makeE c bs=0
 ·exact ⟨_,G.makeH c bs hc hb he⟩
 ·unfold HM.makeH
  rw [if_neg he]
  exact⟨l,G⟩
theorem HM.Good.putH (G:h.Good l) (o:Nat) (i:Int) (v:Nat) (hv:v<4294967296):∃ l',(h.putH o i v).Good l'∧l'.map (·.x.ser)=l.map (·.x.ser):=by
 unfold HM.putH
 by_cases he:h.putE o i v=0
 ·rw [if_pos he]
  unfold HM.putE at he
  split at he
  ·rename_i hk
   split at he
   ·rename_i hval
    obtain⟨hi,hc,h0,hlt⟩:=HM.look_ok hk
    obtain⟨a,b,c,rfl,rfl⟩:=(G.laid.isB_iff o).1 hi
    rw [half_pos,G.laid.hd_at] at hc hlt
    have h2:b.x.fmt≠2:=fun e=>by rw [e] at hc; simp at hc
    have hlen:b.x.len=b.fs.length:=by unfold Hd.len; rw [if_neg h2]; exact G.laid.ok_at.size
    refine⟨_,G.setF i.toNat v (by omega) hv (fun _=>hval) (fun e=>absurd e h2),mid_map _ _ _ _ _ rfl⟩
   ·omega
  ·omega
 ·rw [if_neg he]; exact⟨l,G,rfl⟩
theorem HM.Good.setClassH (G:h.Good l) (o c:Nat) (hc:c<4294967296):∃ l',(h.setClassH o c).Good l'∧l'.map (·.x.ser)=l.map (·.x.ser):=by
 unfold HM.setClassH
 by_cases he:h.setClassE o c=0
 ·rw [if_pos he]
  unfold HM.setClassE at he
  split at he
  ·rename_i hb
   rw [Bool.and_eq_true] at hb
   obtain⟨a,b,d,rfl,rfl⟩:=(G.laid.isB_iff o).1 hb.1
   rw [half_pos]
   exact⟨_,G.setCls c hc hb.2,mid_map _ _ _ _ _ rfl⟩
  ·omega
 ·rw [if_neg he]; exact⟨l,G,rfl⟩
theorem HM.Good.setRootH (G:h.Good l) (i:Int) (v:Nat) (hv:v<4294967296):(h.setRootH i v).Good l:=by
 unfold HM.setRootH
 by_cases he:h.setRootE i v=0
 ·rw [if_pos he]
  unfold HM.setRootE at he
  split at he
  ·split at he
   ·rename_i hval
    exact G.setRoot _ v hv hval
   ·omega
  ·omega
 ·rw [if_neg he]; exact G
end
theorem wsOf_ge (l:List Ob):3*l.length≤(wsOf l).length:=by
 induction l with
 | nil=>simp
 | cons b l ih=>rw [wsOf_cons,List.length_append,b.ws_len,List.length_cons]; omega
end
section
open Go.RowKit
end
end Go.Proofs.YtdoahpflemgaeaaGreatDoor
