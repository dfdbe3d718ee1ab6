import Derived.Test.YtdoahpflemgaeaaGreatDoorJAlloc
import Derived.Test.YtdoahpflemgaeaaGreatDoorJLook
set_option linter.unusedVariables false
namespace Go.Proofs.YtdoahpflemgaeaaGreatDoor
section
open Go.RowKit
def HM.fields (h:HM) (o:Nat):List Nat:=(h.words.drop (o / 2+3)).take (h.hd (o / 2)).size
def HM.bytesE (h:HM) (o:Nat):Nat:=if h.isB o=false then 3 else if (h.hd (o / 2)).fmt=2 then spareE (h.fields o) (h.hd (o / 2)).spare else 21
def BytesP (h:HM) (o:Nat) (w:World) (d:Ending) (w':World):Prop:=
 Below w.heap.size w w'∧if h.bytesE o=0 then ∃ g c,d = .returned (.tuple #[.slice (some ⟨g,0,none⟩) (h.hd (o / 2)).len (h.hd (o / 2)).len,.int .i64 0])∧Row w' g 5 c (u8c (bytesM (h.fields o)))∧w.heap.size≤g
  else d = .returned (.tuple #[.slice none 0 0,.int .i64 (h.bytesE o)])
theorem HM.fields_len {h:HM} {o:Nat} (hd:h.hdAt (o / 2)):(h.fields o).length=(h.hd (o / 2)).size:=by
 have:=hd.1
 simp [HM.fields]; omega
theorem below_drew {w w':World} {B:Nat} (hb:Below B w w'):Below B w w'.drew:=⟨hb.os,hb.tape,hb.output,hb.size,hb.block⟩
def UnpV (ys:List Nat) (s B:Nat) (v:Value) (E:Nat) (w':World):Prop:=
 (spareE ys s=0∧E=0∧∃ g c,v = .slice (some ⟨g,0,none⟩) (4*ys.length-s) (4*ys.length-s)∧Row w' g 5 c (u8c (bytesM ys))∧B≤g)∨(spareE ys s=10∧E=10∧v = .slice none 0 0)
theorem UnpB.any {ys:List Nat} {s:Nat} {w w':World} {d:Ending} (h:UnpB ys s w d w'):
 Below w.heap.size w w'∧∃ v E,d = .returned (.tuple #[v,.int .i64 ((E:Nat):Int)])∧UnpV ys s w.heap.size v E w':=by
 obtain⟨h1,h2⟩:=h
 refine⟨h1,?_⟩
 by_cases he:spareE ys s=0
 ·rw [if_pos he] at h2
  obtain⟨g,c,rfl,hr,hg⟩:=h2
  exact⟨_,0,rfl,.inl ⟨he,rfl,g,c,rfl,hr,hg⟩⟩
 ·rw [if_neg he] at h2
  have he2:spareE ys s=10:=by unfold spareE at *; split <;> simp_all
  exact⟨_,10,h2,.inr ⟨he2,rfl,rfl⟩⟩
theorem UnpV.mono {ys:List Nat} {s B B' E:Nat} {v:Value} {w':World} (h:UnpV ys s B v E w') (hB:B'≤B):UnpV ys s B' v E w':=by
 rcases h with ⟨h1,h2,g,c,h3,h4,h5⟩ | h
 ·exact .inl ⟨h1,h2,g,c,h3,h4,Nat.le_trans hB h5⟩
 ·exact .inr h
section
variable {w:World} {p:HP} {h:HM} (H:HAt w p h) (f:h.Fit) (hh:h.Heads) (hs:Spares w) (o:Nat) (ho:o<4294967296)
include H f hh hs ho
set_option maxHeartbeats 4000000 in
theorem bytes_any:Calls Tryz.prog 78 #[ptr p.g,.int .u32 o] w (BytesP h o w):=by
 have HC:=Lib.hid (Header_any H f hh hs o ho)
 cases hi:h.isB o
 ·have HH:=Lib.hid (show h.headerV o = .tuple #[.agg #[.int .i64 0,.int .i64 0,.int .i64 0,.int .u32 0,.int .u32 0],.int .i64 3] by simp [HM.headerV,hi])
  have HF:=Lib.hid (show h.bytesE o=3 by simp [HM.bytesE,hi])
  rw [HH.out] at HC
  clear HH hi
  unfold ptr at HC ⊢
  go_enter Tryz.func78,Tryz.ntmps78
  go_wp2_with fail
  refine HC.out.mono ?_
  rintro e w1 ⟨rfl,hb1⟩
  go_wp2_with fail
  go_ret2
  exact⟨hb1.alloc hb1.size _,by rw [if_neg (by rw [HF.out]; decide),HF.out]; rfl⟩
 ·have hd:=HM.isB_hd hh hi
  have hk:=HM.isB_obj hi
  have HH:=Lib.hid (show h.headerV o = .tuple #[(h.hd (o / 2)).val,.int .i64 0] by simp [HM.headerV,hi])
  have HX:=Lib.hid (show (h.hd (o / 2)).val = .agg #[.int .i64 (h.hd (o / 2)).size,.int .i64 (h.hd (o / 2)).fmt,.int .i64 (h.hd (o / 2)).spare,.int .u32 (h.hd (o / 2)).cls,.int .u32 (h.hd (o / 2)).ser] from rfl)
  have hfit:=HM.hd_fit f (o / 2)
  rw [HH.out,HX.out] at HC
  clear HH HX
  by_cases h2:(h.hd (o / 2)).fmt=2
  ·have hmay:(h.hd (o / 2)).may=true:=by have:=hd.2; unfold okhd at this; simp only [Bool.and_eq_true] at this; exact this.1
   have hle:(h.hd (o / 2)).size≤65535∧(h.hd (o / 2)).spare≤3∧(0<(h.hd (o / 2)).spare→0<(h.hd (o / 2)).size):=by
    have:=hfit
    unfold Hd.may at hmay
    simp only [Bool.and_eq_true,Bool.or_eq_true,decide_eq_true_eq] at hmay
    obtain⟨_,_,h3,_,_⟩:=hfit
    omega
   have HE:=Lib.hid (show h.bytesE o=spareE (h.fields o) (h.hd (o / 2)).spare by simp [HM.bytesE,hi,h2])
   have HLN:=Lib.hid (show (h.hd (o / 2)).len=4*(h.hd (o / 2)).size-(h.hd (o / 2)).spare by unfold Hd.len; rw [if_pos h2])
   have HFL:=Lib.hid (HM.fields_len hd)
   have hroom:=hd.1
   have hmx:=f.room
   have hmx2:=f.hi
   have HUB:=Lib.hid (fun (w1:World) (hb:Below w.heap.size w w1) (A:Option Addr) (c:Nat) (hA:0<(h.hd (o / 2)).size→A=some ⟨p.gw,o / 2+3,none⟩)=>unpackBytes_any (w:=w1) A (h.hd (o / 2)).size c w1.heap.size (h.hd (o / 2)).spare (h.fields o) hle.1
    ⟨by simp [u32s,HFL.out],fun h0=>⟨_,hA h0,by have:=(H.below hb).lt (.inr (.inl rfl)); exact this,fun j u hj=>by
      obtain⟨x,hx,rfl⟩:=u32s_at hj
      have hjl:j<(h.hd (o / 2)).size:=by rw [← HFL.out]; exact (List.getElem?_eq_some_iff.1 hx).1
      have hw:=(H.below hb).word (i:=o / 2+3+j) (by omega)
      rw [WideShapes.add_plain,hw]
      congr 2
      unfold HM.fields at hx
      rw [List.getElem?_take,if_pos hjl,List.getElem?_drop] at hx
      rw [List.getD_eq_getElem?_getD,hx]
      rfl⟩⟩ (Nat.le_refl _) (fun x hx=>f.w32 x (List.mem_of_mem_drop (List.mem_of_mem_take hx))) hle.2.1 hle.2.2)
   have HA:=Lib.hid (fun w=>at_any p.g o ho hk w)
   have HC0:=Lib.hid (fun w' (hb:Below w.heap.size w w')=>show w'.cell? ⟨p.g,0,none⟩=some (.slice (some ⟨p.gw,0,none⟩) h.words.length p.cw) from (H.below hb).c0)
   obtain⟨hcw,hcm⟩ :h.words.length≤p.cw∧p.cw≤9223372036854775807:=by
    obtain⟨_,_,h1,h2,_⟩:=H.2.1; rw [u32s_len] at h1; unfold maxLen at h2; exact⟨h1,h2⟩
   have hs65:=hle.1
   clear hd hk hi hfit hmay hle
   have HOK:=Lib.hid (fun v E w' (hb:Below w.heap.size w w') (hU:UnpV (h.fields o) (h.hd (o / 2)).spare w.heap.size v E w')=>
    show BytesP h o w (.returned (.tuple #[v,.int .i64 (E:Nat)])) w' from by
     rcases hU with ⟨he,rfl,g,c',rfl,hr,hg⟩ | ⟨he,rfl,rfl⟩
     ·exact ⟨hb,by rw [if_pos (by rw [HE.out]; exact he)]; exact⟨g,c',by rw [HLN.out,HFL.out]; rfl,hr,hg⟩⟩
     ·exact ⟨hb,by rw [if_neg (by rw [HE.out,he]; decide),HE.out,he]⟩)
   clear HE HLN
   generalize hBP:BytesP h o w=BP at *
   clear hBP
   generalize h.hd (o / 2)=x at *
   generalize o / 2=q at *
   generalize h.words.length=len at *
   obtain⟨S,t,s,c,r⟩:=x
   dsimp only at *
   subst h2
   obtain⟨Q,hQ⟩ :∃ Q,q+3=Q:=⟨_,rfl⟩
   obtain⟨R,hR⟩ :∃ R,Q+S=R:=⟨_,rfl⟩
   have e1:(q:Int)+3=(Q:Int):=by omega
   have e2:(Q:Int)+(S:Int)=(R:Int):=by omega
   have e3:R-Q=S:=by omega
   have e4:Q≤R:=by omega
   have e4':(Q:Int)≤(R:Int):=by omega
   have e5:R≤p.cw:=by omega
   have e5':(R:Int)≤(p.cw:Int):=by omega
   have e6:IntKind.i64.wrap (R:Int)=(R:Int):=IntWalk.i64_in _ (by omega)
   have e7:IntKind.i64.wrap (Q:Int)=(Q:Int):=IntWalk.i64_in _ (by omega)
   rw [hQ] at HUB
   have HQ:=Lib.hid hQ
   clear hQ hR hroom
   unfold ptr at HC HA ⊢
   by_cases hcap:p.cw=Q
   ·have hS0:S=0:=by omega
    subst hS0
    obtain rfl:R=Q:=by omega
    clear e3 e4 e4' e5 e5' e6
    have e8:R-R=0:=by omega
    go_enter Tryz.func78,Tryz.ntmps78
    go_wp2_with fail
    refine HC.out.mono ?_
    rintro e w1 ⟨rfl,hb1⟩
    have hb:=hb1.alloc hb1.size (.cells #[.int .i64 0,.int .i64 2,.int .i64 s,.int .u32 c,.int .u32 r] 137)
    have c0:=HC0.out _ hb
    go_wp2_with fail
    refine (HA.out _).mono ?_
    rintro e w2 ⟨rfl,rfl⟩
    go_wp2_with fail
    go_region_with (refine (HUB.out _ (below_drew hb) (some ⟨p.gw,0,none⟩) 0 (fun hh=>absurd hh (by decide))).mono ?_; rintro e w2 hU; obtain⟨hb2,v,E,rfl,hU2⟩:=UnpB.any hU)
    all_goals go_wp2_with fail
    all_goals go_ret2
    all_goals exact HOK.out _ _ _ (below_top (below_drew hb) hb2) (hU2.mono hb.size)
   ·skip
    go_enter Tryz.func78,Tryz.ntmps78
    go_wp2_with fail
    refine HC.out.mono ?_
    rintro e w1 ⟨rfl,hb1⟩
    have hb:=hb1.alloc hb1.size (.cells #[.int .i64 S,.int .i64 2,.int .i64 s,.int .u32 c,.int .u32 r] 137)
    have c0:=HC0.out _ hb
    go_wp2_with fail
    refine (HA.out _).mono ?_
    rintro e w2 ⟨rfl,rfl⟩
    go_wp2_with fail
    go_region_with (refine (HUB.out _ (below_drew hb) (some ⟨p.gw,Q,none⟩) (p.cw-Q) (fun _=>rfl)).mono ?_; rintro e w2 hU; obtain⟨hb2,v,E,rfl,hU2⟩:=UnpB.any hU)
    all_goals go_wp2_with fail
    all_goals go_ret2
    all_goals exact HOK.out _ _ _ (below_top (below_drew hb) hb2) (hU2.mono hb.size)
  ·have HE:=Lib.hid (show h.bytesE o=21 by simp [HM.bytesE,hi,h2])
   have hne:(((h.hd (o / 2)).fmt:Int) != 2)=true:=by simp; omega
   clear h2 hi hk hd hfit
   have HBAD:=Lib.hid (fun w' (hb:Below w.heap.size w w')=>
    show BytesP h o w (.returned (.tuple #[.slice none 0 0,.int .i64 21])) w' from⟨hb,by rw [if_neg (by rw [HE.out]; decide),HE.out]; rfl⟩)
   generalize hBP:BytesP h o w=BP at *
   clear hBP
   generalize h.hd (o / 2)=x at *
   obtain⟨S,t,s,c,r⟩:=x
   dsimp only at *
   unfold ptr at HC ⊢
   go_enter Tryz.func78,Tryz.ntmps78
   go_wp2_with fail
   refine HC.out.mono ?_
   rintro e w1 ⟨rfl,hb1⟩
   have hb:=hb1.alloc hb1.size (.cells #[.int .i64 S,.int .i64 t,.int .i64 s,.int .u32 c,.int .u32 r] 137)
   go_wp2_with fail
   exact HBAD.out _ hb
end
end
end Go.Proofs.YtdoahpflemgaeaaGreatDoor
