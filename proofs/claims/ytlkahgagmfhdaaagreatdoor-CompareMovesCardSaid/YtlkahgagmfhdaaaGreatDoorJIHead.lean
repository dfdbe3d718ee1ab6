import Derived.Test.YtlkahgagmfhdaaaGreatDoorJINew
import Derived.Test.YtlkahgagmfhdaaaGreatDoorJIOld
set_option linter.unusedVariables false
set_option linter.unusedSimpArgs false
set_option linter.unusedSectionVars false
open List renaming setIfInBounds_toArray→ae,set_cons_zero→af,set_cons_succ→ag,length_append→ah,append_assoc→ak,getD_eq_getElem?_getD→aq,length_cons→ar,getElem?_eq_getElem→au,flatMap_cons→aA,getElem?_map→aB,mem_of_mem_take→aC,length_take→aF,mem_map→aG,length_nil→aN,length_map→aO,map_congr_left→aS,idxOf_lt_length_of_mem→aT,any_eq_false→aU,getElem_mem→aV,mem_append_right→aZ,take_append_drop→a8,drop_left→a_,take_left→bg,mem_of_getElem?→bj,flatMap_append→bk,getElem?_take→bn,map_map→br,map_id→bu,length_drop→bv,map_append→bz,append_nil→bD,mem_cons→bF,map_cons→bJ,range→bN
open Nat renaming le_refl→ai,lt_of_lt_of_le→ax,mul_le_mul_left→az,mod_lt→aH,reducePow→aJ,reduceMul→aK,le_trans→aP,and_two_pow_sub_one_eq_mod→aQ,mul_comm→aR,mod_eq_of_lt→aW,pow_succ→bp,add_sub_cancel→bq,mul_one→bt,add_assoc→bE
open Go.Exit renaming noGoto_ret→aj
open Go.Act renaming put→aw
open Go.Oper renaming semAt_some→ay
open Go.World renaming cell?_of_block→aD,setCell→aI,size_alloc→bw
open Int renaming toNat_natCast→aL
open Go.Addr renaming add→aM
open Go.Program renaming elem→aX
open Bool renaming or_eq_true→aY
set_option maxRecDepth 100000
set_option maxHeartbeats 8000000
namespace Go.Proofs.YtlkahgagmfhdaaaGreatDoor
section
open Go.RowKit
attribute [local go_sem] ay
theorem ny {o:Oper}{a:Act}{K:Act->World->Prop}{Q:Exit->Act->World->Prop}{w w2:World}{B m c:Nat}{v:Value}{bs cs:List Nat}{A:Option Addr}(s x:Operand)
 (C:RB w2 w B v bs)(hr:eQ w w.heap.size 1 A m (fP cs))(hs:a.eval s=v)(hx:a.eval x= .slice A m c)(hn:bs.length+m<=100000000000000)
 (ho:o.op= .call { callee:=.builtin .append,args:=#[s,x],argTypes:=#[22,22] })
 (h:∀ v' w',RB w2 w' B v' (bs++cs)->w.grownBy w' v.ownBlock->K (a.put o.dst v') w'):Oper.wp Tryz.prog o a w K Q:=by
 obtain⟨i0,iF,hz0,hz1,hz2⟩:=info_parts kW;refine fS w s x _ ho B 5 i0 _ 1 1 Tryz.underlying22 iF hz0 hz1 hz2 rfl (by omega) v bs.length (fP bs) hs C.own w.heap.size A m c (fP cs) hx hr (kX _) (by simp only[maxLen];omega) (by omega) C.top ?_;intro v4 w4 vn tZ XG;exact h _ _ (C.app (by have:=hr.1;rw[gW,bt]at this;exact this) vn tZ) tZ
theorem NP {w:World}{p:HP}{h:HM}{sg mb:Nat}{L:List Nat}(H:fO w p h)(f:h.Fit)(S:td w sg mb p.g L)(hL:L.length<=1048576)(uG:L.Nodup):
 Calls Tryz.prog 107 #[.pointer (some ⟨sg,0,none⟩)] w (oD (fq h.last++fq L.length) w):=by
 have tF:=f.l32;have hc1:=gQ tF;have hc2:=gQ (show L.length<4294967296 by omega);have hwm:IntKind.u32.wrap (L.length:Int)=(L.length:Int):=by show (L.length:Int)%4294967296=_;omega
 have hst:=(DO L uG).1;unfold oD;go_enter Tryz.func107,Tryz.ntmps107;go_upto_region 1 with fail;refine iB 14 (fun w'=>w'.cell? ⟨sg,0,none⟩=some (.pointer (some ⟨p.g,0,none⟩))/\w'.cell? ⟨sg,1,none⟩=some (.map (some mb))) (by kernel_rfl) ?_;have jv:Below w.heap.size w w.drew:=⟨rfl,rfl,rfl,ai _,fun _ _=>rfl⟩;have yr:=aa jv;have H7:=H.below jv;have S7:=S.below jv;clear H S jv;generalize hW7:w.drew=W7 at*;have HW7:=aa hW7;clear hW7;have hsize:W7.heap.size=w.heap.size:=by rw[<-HW7.o];rfl
 have HS:=aa (fun (w':World) (hb:Below W7.heap.size W7 w')=>show w'.cell? ⟨sg,0,none⟩=some (.pointer (some ⟨p.g,0,none⟩))/\w'.cell? ⟨sg,1,none⟩=some (.map (some mb)) from⟨(S7.below hb).box.cell 0,(S7.below hb).box.cell 1⟩);have BG:=aa (fun (w':World) (hb:Below W7.heap.size W7 w') (ty:TypeId)=>(S7.below hb).map.len wY ty);rw[hst]at BG;have tz:=aa (Gx H7 f);unfold ptr at tz;have hS:=HS.o _ (Below.refl _ _);clear H7 S7;refine eT 0 (v:=(.pointer (some ⟨sg,0,none⟩))) rfl (by kernel_rfl) (fun _ _ _ h=>h) hS (by rfl) (fun w' hw'=>by obtain⟨h0,h1⟩:=hw';go_simp) ?_;try simp only[aw,ae,af,ag]
 refine eT 1 (v:=(.pointer (some ⟨sg,0,none⟩))) rfl (by kernel_rfl) (fun _ _ _ h=>h) hS (by rfl) (fun w' hw'=>by obtain⟨h0,h1⟩:=hw';go_simp) ?_;try simp only[aw,ae,af,ag]
 refine eT 2 (v:=(.pointer (some ⟨sg,0,none⟩))) rfl (by kernel_rfl) (fun _ _ _ h=>h) hS (by rfl) (fun w' hw'=>by obtain⟨h0,h1⟩:=hw';go_simp) ?_;try simp only[aw,ae,af,ag]
 refine eT 3 (v:=(.pointer (some ⟨p.g,0,none⟩))) rfl (by kernel_rfl) (fun _ _ _ h=>h) hS (by rfl) (fun w' hw'=>by obtain⟨h0,h1⟩:=hw';go_simp) ?_;try simp only[aw,ae,af,ag]
 refine eT 6 (v:=(.pointer (some ⟨sg,0,none⟩))) rfl (by kernel_rfl) (fun _ _ _ h=>h) hS (by rfl) (fun w' hw'=>by obtain⟨h0,h1⟩:=hw';go_simp) ?_;try simp only[aw,ae,af,ag]
 refine eT 7 (v:=(.pointer (some ⟨sg,0,none⟩))) rfl (by kernel_rfl) (fun _ _ _ h=>h) hS (by rfl) (fun w' hw'=>by obtain⟨h0,h1⟩:=hw';go_simp) ?_;try simp only[aw,ae,af,ag]
 refine eT 8 (v:=(.pointer (some ⟨sg,1,none⟩))) rfl (by kernel_rfl) (fun _ _ _ h=>h) hS (by rfl) (fun w' hw'=>by obtain⟨h0,h1⟩:=hw';go_simp) ?_;try simp only[aw,ae,af,ag]
 refine eT 9 (v:=(.map (some mb))) rfl (by kernel_rfl) (fun _ _ _ h=>h) hS (by rfl) (fun w' hw'=>by obtain⟨h0,h1⟩:=hw';go_simp) ?_;try simp only[aw,ae,af,ag]
 refine fh 4 (by kernel_rfl) rfl rfl (fun K hK=>?_);go_simp;refine tz.o.mono ?_;rintro e w4 ⟨rfl,rfl⟩;try dsimp only
 refine hK _ _ (fun _=>hS) ?_;clear hK K;try simp only[aw,ae,af,ag]
 refine fh 5 (by kernel_rfl) rfl rfl (fun K hK=>?_);go_simp;refine (iu h.last tF _).mono ?_;rintro e w5 ⟨v5,rfl,fe,iW⟩;try dsimp only
 have TZ:=HS.o _ iW;have ahc:=BG.o _ iW;refine hK _ _ (fun _=>TZ) ?_;clear hK K;try simp only[aw,ae,af,ag]
 refine fh 10 (by kernel_rfl) rfl rfl (fun K hK=>?_);go_simp;refine hK _ _ (fun _=>TZ) ?_;clear hK K;try simp only[aw,ae,af,ag]
 refine fh 11 (by kernel_rfl) rfl rfl (fun K hK=>?_);go_simp;refine hK _ _ (fun _=>TZ) ?_;clear hK K;try simp only[aw,ae,af,ag]
 have oF:=aa (RB.new (w2:=W7) fe iW (Below.refl _ _));clear fe;refine fh 12 (by kernel_rfl) rfl rfl (fun K hK=>?_);go_simp;refine (iu L.length (by omega) _).mono ?_;rintro e w6 ⟨v6,rfl,kC,jV⟩;obtain⟨A6,c6,rfl,Cc⟩:=fy kC;try dsimp only
 have hS6:=HS.o _ (eF iW jV);have yt:=aa (oF.o.below jV);clear oF;refine hK _ _ (fun _=>hS6) ?_;clear hK K;try simp only[aw,ae,af,ag]
 refine fh 13 (by kernel_rfl) rfl rfl (fun K hK=>?_);refine ny (.tmp 8) (.tmp 15) yt.o Cc rfl rfl (by omega) rfl ?_;intro v7 w7 C7 tk;refine hK _ _ (fun _=>(HS.o _ C7.base)) ?_;clear hK K;try simp only[aw,ae,af,ag]
 refine fh 14 (by kernel_rfl) rfl rfl (fun K hK=>?_);go_simp;refine hK _ _ (fun h=>absurd h (by decide)) ?_;clear hK K;try simp only[aw,ae,af,ag]
 refine g_ (by kernel_rfl) ?_ _;simp only[Calm,Exit.then];have gS:=C7;rw[hsize]at gS;clear hS TZ hS6 ahc;go_wp2_with fail;go_ret;exact⟨_,rfl,gS.own,eF yr.o C7.base⟩
def jk (L:List Nat)(rs:List Nat):List Nat:=rs.flatMap fun o=>fq (mj L o)
theorem xX {L l:List Nat}{k:Nat}(hk:k<l.length):jk L (l.take (k+1))=jk L (l.take k)++fq (mj L (l.getD k 0)):=by
 unfold jk;rw[List.take_add_one,au hk,bk,aq,au hk];simp
theorem pM {L:List Nat}(hL:L.length<=1048576):∀ rs:List Nat,(∀ x∈rs,x<4294967296)->(jk L rs).length<=5*rs.length
 | [],_=>by simp[jk]
 | a :: rs,h=>by
   have h1:=pM hL rs (fun x hx=>h x (by simp[hx]));have h2:=gQ (sS hL (h a (by simp)));unfold jk at*;rw[aA,ah,ar];omega
theorem Kc {w:World}{p:HP}{h:HM}{sg mb:Nat}{L:List Nat}(H:fO w p h)(f:h.Fit)(S:td w sg mb p.g L)(hL:L.length<=1048576)(uG:L.Nodup):
 Calls Tryz.prog 109 #[.pointer (some ⟨sg,0,none⟩)] w (oD (jk L h.roots) w):=by
 have aa5:=f.r32;have VO:=f.roots;have Kt:=aa (sJ H f);have c0:=S.box.cell 0;have HV:=aa (fun (w':World) (hb:Below w.heap.size w w') (o:Nat) (ho:o<4294967296)=>AQ (S.below hb) hL uG o ho);have HVL:=aa (fun (o:Nat) (ho:o<4294967296)=>gQ (sS hL ho));unfold pU ptr at Kt;rw[eY]at Kt;unfold oD at*;clear H S;go_enter Tryz.func109,Tryz.ntmps109;go_wp2_with fail;refine Kt.o.mono ?_;rintro e w1 ⟨gr,cr,rfl,VP,hgr,hb1⟩;have Im:=aa VP;have ko:=aa hb1;clear VP hb1 Kt c0;go_wp2_with fail
 go_loopw [3,12] (fun b i wr=>∃ k:Nat,i= .int .i64 k/\k<=h.roots.length/\RB w1 wr w1.heap.size b (jk L (h.roots.take k))) (fun _ y _=>h.roots.length-(intOf y).toNat)
 case atStart=>exact⟨0,rfl,by omega,RB.nil (Below.refl _ _) (ai _) (ai _)⟩
 case round=>
  obtain⟨k,rfl,hk,hcr⟩:=hrel;have uL:=aa hcr;clear hcr;by_cases hkn:k<h.roots.length
  .have hd:decide ((k:Int)<(h.roots.length:Int))=true:=(by simp;omega);have hc1:wr.cell? ⟨gr,k,none⟩=some (.int .u32 ((h.roots.getD k 0:Nat):Int)):=(Im.o.below uL.o.base).cell (ft hkn);have qW:h.roots.getD k 0<4294967296:=(by rw[aq,au hkn];exact aa5 _ (aV hkn));have HX:=aa (xX (L:=L) hkn);have hbl:=pM hL (h.roots.take k) (fun x hx=>aa5 x (aC hx));rw[aF]at hbl;generalize h.roots.getD k 0=x at*;go_wp2_with fail;refine (HV.o _ (eF ko.o uL.o.base) x qW).mono ?_;rintro e w5 ⟨v5,rfl,fe,iW⟩;obtain⟨A5,c5,rfl,K0⟩:=fy fe;have j9:=aa K0;have oF:=aa (uL.o.below iW);have Yd:=HVL.o x qW;clear fe iW K0 uL hc1;generalize fq (mj L x)=cx at*;go_wp2_with (at_builtin;refine jY (.tmp 16) (.tmp 19) oF.o j9.o rfl rfl (by omega) rfl rfl ?_;intro v6 w6 C6 XR;clear XR;have yt:=aa C6;clear C6);go_roundw
   case rel=>exact⟨k+1,by go_num,by omega,by rw[HX.o];exact yt.o⟩
   case measure=>simp[intOf];omega
  .obtain rfl:k=h.roots.length:=(by omega);have hd:decide ((h.roots.length:Int)<(h.roots.length:Int))=false:=(by simp);have hcw:=uL.o;rw[List.take_length]at hcw;have Cr:=aa hcw;clear uL hk hcw;go_wp2_with fail;go_ret;exact⟨_,rfl,Dq Cr.o.own ko.o.size,eF ko.o Cr.o.base⟩
end
section
open Go.RowKit
attribute [local go_sem] ay
def qu (L:List Nat)(b:Ob):List Nat:=if b.x.fmt=2 then (fg b.fs).take b.x.len else if b.x.fmt=3 then b.fs.flatMap fq else jk L b.fs
def rL (L:List Nat)(b:Ob):List Nat:=fq (kt L b.x.cls)++([b.x.fmt+16*b.x.spare]++(fq b.x.size++(fq b.x.ser++qu L b)))
theorem DZ {fs:List Nat}(h:∀ x∈fs,x<4294967296):(fs.flatMap fq).length<=5*fs.length:=by
 induction fs with
 | nil=>simp
 | cons a fs ih=>
   have h1:=ih (fun x hx=>h x (by simp[hx]));have h2:=gQ (h a (by simp));rw[aA,ah,ar];omega
theorem Ri {L:List Nat}(hL:L.length<=1048576){b:Ob}(K:b.Ok):(qu L b).length<=5*b.fs.length:=by
 unfold qu;split
 .rw[aF,gK];omega
 .split
  .exact DZ K.f32
  .exact pM hL _ K.f32
theorem GQ {L:List Nat}(hL:L.length<=1048576){b:Ob}(K:b.Ok):(rL L b).length<=16+5*b.fs.length:=by
 have h1:=Ri hL K;have h2:=gQ (show kt L b.x.cls<4294967296 by have:=vK L b.x.cls;omega);have h3:=gQ (show b.x.size<4294967296 by have:=K.fit.size;omega);have h4:=gQ K.fit.ser;unfold rL;simp only[ah,ar,aN];omega
theorem Lh {b:Ob}(K:b.Ok):b.fs.length<=65535:=by
 have hm:=K.may;unfold Hd.may at hm;simp at hm;have:=K.size;omega
def iG (L:List Nat)(bs:List Ob):List Nat:=bs.flatMap (rL L)
theorem JL (L:List Nat)(bs:List Ob)(b:Ob):iG L (bs++[b])=iG L bs++rL L b:=by unfold iG;rw[bk];simp
theorem Dm {L:List Nat}(hL:L.length<=1048576):∀ bs:List Ob,(∀ b∈bs,b.Ok)->(iG L bs).length<=400000*bs.length
 | [],_=>by simp[iG]
 | b :: bs,h=>by
   have h1:=Dm hL bs (fun x hx=>h x (by simp[hx]));have h2:=GQ hL (h b (by simp));have h3:=Lh (h b (by simp));unfold iG at*;rw[aA,ah,ar];omega
section
variable {w:World}{p:HP}{h:HM}{l:List Ob}
theorem Lf (G:h.Good l)(k:Nat)(hk:k<l.length):h.fields (2*eG (l.take k))=(l[k]).fs/\(l[k]).Ok/\(∀ j,j<(l[k]).fs.length->fw h (2*eG (l.take k)) j=(l[k]).fs.getD j 0)/\h.isB (2*eG (l.take k))=true/\h.hd (2*eG (l.take k)/2)=(l[k]).x:=by
 have L:=G.laid;have e:=kj l k hk;have L':=L;rw[e]at L';exact⟨L'.apE,L.ok _ (aV hk),fun j hj=>L'.aqp j hj,zH G k hk,by rw[fT];exact zx G k hk⟩
theorem Q7 (H:fO w p h)(G:h.Good l)(hs:eX w)(k:Nat)(hk:k<l.length)(i:Nat)(hi:i<(l[k]).fs.length)(hf:(l[k]).x.fmt=1\/(l[k]).x.fmt=4)(ho:2*eG (l.take k)<4294967296):
 Calls Tryz.prog 175 #[ptr p.g,.int .u32 (2*eG (l.take k):Nat),.int .i64 i] w (Told (.tuple #[.int .u32 ((l[k]).fs.getD i 0:Nat),.int .i64 0]) w):=by
 obtain⟨h1,K,h3,h4,h5⟩:=Lf G k hk;have hG:=yA H G.fit G.laid.heads hs _ ho (i:Int);have SB:(l[k]).x.len=(l[k]).fs.length:=by unfold Hd.len;rw[if_neg (by omega),K.size]
 have he:h.ape (2*eG (l.take k)) (i:Int) [1,4]=0:=by
  unfold HM.ape;rw[h4,h5,if_neg (by decide),if_neg (by rcases hf with e|e <;> rw[e] <;> decide),if_neg (by omega)]
 unfold HM.ap2 at hG;rw[he,if_pos rfl,aL,h3 i hi]at hG;exact hG
theorem Ng (H:fO w p h)(G:h.Good l)(hs:eX w)(k:Nat)(hk:k<l.length)(i:Nat)(hi:i<(l[k]).fs.length)(hf:(l[k]).x.fmt=3)(ho:2*eG (l.take k)<4294967296):
 Calls Tryz.prog 136 #[ptr p.g,.int .u32 (2*eG (l.take k):Nat),.int .i64 i] w (Told (.tuple #[.int .u32 ((l[k]).fs.getD i 0:Nat),.int .i64 0]) w):=by
 obtain⟨h1,K,h3,h4,h5⟩:=Lf G k hk;have hG:=Ia H G.fit G.laid.heads hs _ ho (i:Int);have SB:(l[k]).x.len=(l[k]).fs.length:=by unfold Hd.len;rw[if_neg (by omega),K.size]
 have he:h.ape (2*eG (l.take k)) (i:Int) [3]=0:=by
  unfold HM.ape;rw[h4,h5,if_neg (by decide),if_neg (by rw[hf];decide),if_neg (by omega)]
 unfold HM.ap2 at hG;rw[he,if_pos rfl,aL,h3 i hi]at hG;exact hG
theorem Em {w:World}{g c len:Nat}{xs:List Nat}(hr:Row w g 5 c (fP xs))(hl:len<=xs.length):eQ w w.heap.size 1 (some ⟨g,0,none⟩) len (fP (xs.take len)):=by
 refine⟨by simp[fP];omega,fun _=>⟨_,rfl,hr.lt,fun j u hu=>?_⟩⟩;rw[WideShapes.add_plain,Nat.zero_add];refine hr.cell ?_;unfold fP at hu ⊢;rw[aB]at hu ⊢;rw[bn]at hu;split at hu
 .exact hu
 .cases hu
def TE (b:Ob)(w:World)(e:Ending)(w':World):Prop:=
 Below w.heap.size w w'/\∃ g,e= .returned (.tuple #[.slice (some ⟨g,0,none⟩) ((fg b.fs).take b.x.len).length ((fg b.fs).take b.x.len).length,.int .i64 0])/\eQ w' w'.heap.size 1 (some ⟨g,0,none⟩) ((fg b.fs).take b.x.len).length (fP ((fg b.fs).take b.x.len))
theorem JM (H:fO w p h)(G:h.Good l)(hs:eX w)(k:Nat)(hk:k<l.length)(hf:(l[k]).x.fmt=2)(ho:2*eG (l.take k)<4294967296):
 Calls Tryz.prog 137 #[ptr p.g,.int .u32 (2*eG (l.take k):Nat)] w (TE (l[k]) w):=by
 obtain⟨h1,K,h3,h4,h5⟩:=Lf G k hk;refine (wL H G.fit G.laid.heads hs _ ho).mono ?_;rintro e w' ⟨hb,hy⟩;have hE:h.apK (2*eG (l.take k))=0:=by
  unfold HM.apK;rw[if_neg (by simp[h4]),h5,if_pos hf,h1];exact G.sound.spare _ (aV hk) hf
 have hlen:(l[k]).x.len<=(fg (l[k]).fs).length:=by
  rw[gK];unfold Hd.len;rw[if_pos hf,K.size];omega
 rw[if_pos hE,h1,h5]at hy;obtain⟨g,c,rfl,hrow,hg⟩:=hy;have e1:((fg (l[k]).fs).take (l[k]).x.len).length=(l[k]).x.len:=by rw[aF];omega
 refine⟨hb,g,?_,?_⟩
 .rw[e1]
 .rw[e1];exact Em hrow hlen
end
end
section
theorem E4 {bs:List Nat}:(∀ x∈bs,x<256)->∀ j,iU bs j<4294967296:=by
 intro h j;have hg:∀ i,bs.getD i 0<256:=by
  intro i;rw[aq]
  cases hh:bs[i]? with
  | none=>simp
  | some v=>simp;exact h v (bj hh)
 have:=hg (4*j);have:=hg (4*j+1);have:=hg (4*j+2);have:=hg (4*j+3);unfold iU;omega
def Nz:Nat->Nat->List Nat->Option (Nat × List Nat)
 | _,_,[]=>none
 | i,n,x :: t=>if x<128 then (if (x=0/\0<i)\/4294967296<=n+128 ^ i*(x%128) then none else some (n+128 ^ i*(x%128),t)) else if 4<=i then none else Nz (i+1) (n+128 ^ i*(x%128)) t
def rdNum (b:List Nat):Option (Nat × List Nat):=Nz 0 0 b
theorem Rs:∀ (b:List Nat) (i n v:Nat) (t:List Nat),Nz i n b=some (v,t)->v<4294967296/\t.length<b.length/\∃ c,b=c++t
 | [],i,n,v,t,h=>by cases h
 | x :: b,i,n,v,t,h=>by
   unfold Nz at h;split at h
   .split at h
    .cases h
    .rename_i h1;cases h;exact⟨by omega,by simp,[x],rfl⟩
   .split at h
    .cases h
    .obtain⟨h1,h2,c,h3⟩:=Rs b _ _ _ _ h;exact⟨h1,by simp;omega,x :: c,by rw[h3];rfl⟩
theorem nY {b:List Nat}{v:Nat}{t:List Nat}(h:rdNum b=some (v,t)):v<4294967296/\t.length<b.length/\∃ c,b=c++t:=Rs b 0 0 v t h
theorem Hb (t:List Nat):∀ (k i n m:Nat),m<128 ^ (k+1)->i+k=4->(0<i->0<m)->n+128 ^ i*m<4294967296->Nz i n (fq m++t)=some (n+128 ^ i*m,t)
 | k, i,n,m,hm,hik,h0,hn=>by
   by_cases h:m<128
   .rw[gR h];show Nz i n (m :: t)=_;unfold Nz;rw[if_pos h,aW h,if_neg (by omega)]
   .rw[jO h];show Nz i n ((m%128+128) :: (fq (m/128)++t))=_;unfold Nz;have e1:(m%128+128)%128=m%128:=(by omega);have e2:n+128 ^ i*(m%128)+128 ^ (i+1)*(m/128)=n+128 ^ i*m:=by
     rw[bp,Nat.mul_assoc,bE,<-Nat.mul_add];congr 2;omega
    cases k with
    | zero=>omega
    | succ k=>
      rw[if_neg (by omega),if_neg (by omega),e1,Hb t k (i+1) _ (m/128) (by rw[Nat.div_lt_iff_lt_mul (by omega)];rw[bp]at hm;exact hm) (by omega) (fun _=>by omega) (by rw[e2];exact hn),e2]
theorem lC {n:Nat}(h:n<4294967296)(t:List Nat):rdNum (fq n++t)=some (n,t):=by
 have:=Hb t 4 0 0 n (by rw[show (128:Nat) ^ (4+1)=34359738368 by decide];omega) rfl (by omega) (by simpa using h);simpa[rdNum] using this
def tI:Nat->List Nat->Option (List Nat × List Nat)
 | 0,b=>some ([],b)
 | k + 1,b=>match rdNum b with
   | none=>none
   | some (v,t)=>match tI k t with
     | none=>none
     | some (l,r)=>some (v :: l,r)
theorem vU:∀ (k:Nat) (b l r:List Nat),tI k b=some (l,r)->l.length=k/\r.length+k<=b.length/\(∀ x∈l,x<4294967296)/\∃ c,b=c++r
 | 0,b,l,r,h=>by cases h;exact⟨rfl,ai _,(fun _ h=>(by cases h)),[],rfl⟩
 | k + 1,b,l,r,h=>by
   unfold tI at h;split at h
   .cases h
   .rename_i v t hv;split at h
    .cases h
    .rename_i l' r' hl;cases h;obtain⟨h1,h2,h3,c,h4⟩:=vU k t _ _ hl;obtain⟨g1,g2,d,g3⟩:=nY hv;refine⟨by simp[h1],by omega,fun x hx=>?_,d++c,by rw[g3,h4,ak]⟩;rcases bF.1 hx with rfl|hx
     .exact g1
     .exact h3 x hx
theorem rQ:∀ (k:Nat) (b l r:List Nat),tI k b=some (l,r)->tI (k+1) b=(match rdNum r with|none=>none|some (v,t)=>some (l++[v],t))
 | 0,b,l,r,h=>by
   cases h;show (match rdNum b with|none=>none|some (v,t)=>match tI 0 t with|none=>none|some (l,r)=>some (v :: l,r))=_
   cases rdNum b with
   | none=>rfl
   | some p=>rfl
 | k + 1,b,l,r,h=>by
   unfold tI at h;unfold tI
   cases hn:rdNum b with
   | none=>rw[hn]at h;cases h
   | some p=>
     obtain⟨v,t⟩:=p;rw[hn]at h;simp only at h ⊢
     cases hk:tI k t with
     | none=>rw[hk]at h;cases h
     | some q=>
       obtain⟨l',r'⟩:=q;rw[hk]at h;simp only at h;cases h;rw[rQ k t l' r hk]
       cases rdNum r with
       | none=>rfl
       | some u=>rfl
theorem Al:∀ (j k:Nat) (b:List Nat),tI k b=none->k<=j->tI j b=none
 | _,0,b,h,_=>by cases h
 | 0,k+1,b,h,hj=>by omega
 | j + 1,k+1,b,h,hj=>by
   unfold tI at h ⊢
   cases hn:rdNum b with
   | none=>rfl
   | some p=>
     obtain⟨v,t⟩:=p;rw[hn]at h;simp only at h ⊢
     cases hk:tI k t with
     | none=>rw[Al j k t hk (by omega)]
     | some q=>rw[hk]at h;cases h
theorem yH (t:List Nat):∀ (l:List Nat),(∀ x∈l,x<4294967296)->tI l.length (l.flatMap fq++t)=some (l,t)
 | [],_=>rfl
 | a :: l,h=>by
   rw[aA,ak,ar];unfold tI;rw[lC (h a (by simp)),];simp only;rw[yH t l (fun x hx=>h x (by simp[hx]))]
structure Th where
 x:Hd
 fs:List Nat
def Ch (x:Hd):Bool:=x.may && decide (x.spare<4)
theorem Lg {x:Hd}(h:Ch x=true)(h1:x.cls<4294967296)(h2:x.ser<4294967296):x.Fit/\x.may=true:=by
 unfold Ch Hd.may at h;simp at h;exact⟨⟨by omega,by omega,by omega,h1,h2⟩,by unfold Hd.may;simp;omega⟩
def ER (x:Hd)(b:List Nat):Option (Th × List Nat):=
 if x.fmt=2 then (if 4*x.size-x.spare<=b.length then some (⟨x,mO (b.take (4*x.size-x.spare))⟩,b.drop (4*x.size-x.spare)) else none)
 else match tI x.size b with
  | none=>none
  | some (fs,r)=>some (⟨x,fs⟩,r)
def Cj (b:List Nat):Option (Hd × List Nat):=
 match rdNum b with
 | none=>none
 | some (c,b1)=>match b1 with
   | []=>none
   | k :: b2=>match rdNum b2 with
     | none=>none
     | some (n,b3)=>match rdNum b3 with
       | none=>none
       | some (s,b4)=>if Ch ⟨n,k%16,k/16,c,s⟩ then some (⟨n,k%16,k/16,c,s⟩,b4) else none
def jT (b:List Nat):Option (Th × List Nat):=match Cj b with
 | none=>none
 | some (x,b4)=>ER x b4
theorem UR {b:List Nat}{x:Hd}{r:List Nat}(h:Cj b=some (x,r)):Ch x=true/\x.cls<4294967296/\x.ser<4294967296/\r.length+4<=b.length/\∃ c,b=c++r:=by
 unfold Cj at h;split at h
 .cases h
 .rename_i c b1 h1;split at h
  .cases h
  .rename_i k b2;split at h
   .cases h
   .rename_i n b3 h3;split at h
    .cases h
    .rename_i s b4 h4;split at h
     .rename_i hk;cases h;obtain⟨a1,a2,c1,a3⟩:=nY h1;obtain⟨d1,d2,c2,d3⟩:=nY h3;obtain⟨e1,e2,c3,e3⟩:=nY h4;simp only[ar]at a2;exact⟨hk,a1,e1,by omega,c1++k :: (c2++c3),by rw[a3,d3,e3];simp⟩
     .cases h
structure Th.Ok (t:Th):Prop where
 fit:t.x.Fit
 may:t.x.may=true
 size:t.fs.length=t.x.size
 f32:∀ f∈t.fs,f<4294967296
theorem Ru {b:List Nat}{t:Th}{r:List Nat}(h:jT b=some (t,r))(hb:∀ x∈b,x<256):t.Ok/\r.length+4+t.fs.length<=b.length/\∃ c,b=c++r:=by
 unfold jT at h;split at h
 .cases h
 .rename_i x b4 hx;obtain⟨h1,h2,h3,h4,c,h5⟩:=UR hx;obtain⟨k1,k2⟩:=Lg h1 h2 h3;unfold ER at h;split at h
  .rename_i hf;split at h
   .rename_i hl;cases h;have hs:4*x.size-x.spare+3<4*(x.size+1)/\4*x.size<=4*x.size-x.spare+3:=by
     have:=k1.spare;unfold Hd.may at k2;simp at k2;omega
    have hlen:(mO (b4.take (4*x.size-x.spare))).length=x.size:=by
     rw[Ds,aF];omega
    refine⟨⟨k1,k2,hlen,fun f hf'=>?_⟩,?_,c++b4.take (4*x.size-x.spare),?_⟩
    .unfold mO l6 at hf';obtain⟨j,_,rfl⟩:=aG.1 hf';refine E4 (fun y hy=>hb y ?_) j;rw[h5];exact aZ _ (aC (aC hy))
    .rw[hlen,bv];have:=k1.spare;unfold Hd.may at k2;simp at k2;omega
    .rw[h5,ak,a8]
   .cases h
  .split at h
   .cases h
   .rename_i fs r' hk;cases h;obtain⟨a1,a2,a3,d,a4⟩:=vU _ _ _ _ hk;exact⟨⟨k1,k2,a1,a3⟩,by simp only[a1];omega,c++d,by rw[h5,a4,ak]⟩
def jJ:Nat->List Nat->Option (List Th × List Nat)
 | 0,b=>some ([],b)
 | k + 1,b=>match jT b with
   | none=>none
   | some (v,t)=>match jJ k t with
     | none=>none
     | some (l,r)=>some (v :: l,r)
theorem rR:∀ (k:Nat) (b:List Nat) (l:List Th) (r:List Nat),jJ k b=some (l,r)->jJ (k+1) b=(match jT r with|none=>none|some (v,t)=>some (l++[v],t))
 | 0,b,l,r,h=>by
   cases h;show (match jT b with|none=>none|some (v,t)=>match jJ 0 t with|none=>none|some (l,r)=>some (v :: l,r))=_
   cases jT b with
   | none=>rfl
   | some p=>rfl
 | k + 1,b,l,r,h=>by
   unfold jJ at h;unfold jJ
   cases hn:jT b with
   | none=>rw[hn]at h;cases h
   | some p=>
     obtain⟨v,t⟩:=p;rw[hn]at h;simp only at h ⊢
     cases hk:jJ k t with
     | none=>rw[hk]at h;cases h
     | some q=>
       obtain⟨l',r'⟩:=q;rw[hk]at h;simp only at h;cases h;rw[rR k t l' r hk]
       cases jT r with
       | none=>rfl
       | some u=>rfl
theorem xQ:∀ (j k:Nat) (b:List Nat),jJ k b=none->k<=j->jJ j b=none
 | _,0,b,h,_=>by cases h
 | 0,k+1,b,h,hj=>by omega
 | j + 1,k+1,b,h,hj=>by
   unfold jJ at h ⊢
   cases hn:jT b with
   | none=>rfl
   | some p=>
     obtain⟨v,t⟩:=p;rw[hn]at h;simp only at h ⊢
     cases hk:jJ k t with
     | none=>rw[xQ j k t hk (by omega)]
     | some q=>rw[hk]at h;cases h
theorem xd:∀ (k:Nat) (b:List Nat) (l:List Th) (r:List Nat),jJ k b=some (l,r)->(∀ x∈b,x<256)->l.length=k/\(∀ t∈l,t.Ok)/\4*k+r.length<=b.length/\∃ c,b=c++r
 | 0,b,l,r,h,_=>by cases h;exact⟨rfl,(fun _ h=>(by cases h)),by omega,[],rfl⟩
 | k + 1,b,l,r,h,hb=>by
   unfold jJ at h;split at h
   .cases h
   .rename_i v t hv;split at h
    .cases h
    .rename_i l' r' hl;cases h;obtain⟨g1,g2,d,g5⟩:=Ru hv hb;obtain⟨h1,h2,h3,c,h4⟩:=xd k t _ _ hl (fun x hx=>hb x (by rw[g5];exact aZ _ hx));refine⟨by simp[h1],fun x hx=>?_,by omega,d++c,by rw[g5,h4,ak]⟩;rcases bF.1 hx with rfl|hx
     .exact g1
     .exact h2 x hx
def mQ (tag:Nat)(b:List Nat):Except Nat (List Nat × List Nat):=
 match b with
 | []=> .error 143
 | t :: b1=>if t≠tag then .error 142 else match rdNum b1 with
   | none=> .error 143
   | some (n,b2)=>if b2.length<n+4 then .error 143 else if (b2.drop n).take 4=ml (mW (tag :: b2.take n)) then .ok (b2.take n,b2.drop (n+4)) else .error 144
def iy:List Nat->List Nat->Except Nat (List (List Nat) × List Nat)
 | [],b=> .ok ([],b)
 | tag :: ts,b=>match mQ tag b with
   | .error e=> .error e
   | .ok (p,r)=>match iy ts r with
     | .error e=> .error e
     | .ok (ps,r')=> .ok (p :: ps,r')
def fk (tag:Nat)(p:List Nat):List Nat:=[tag]++(fq p.length++(p++ml (mW (tag :: p))))
theorem qA (tag:Nat)(p t:List Nat)(hp:p.length<4294967296):mQ tag (fk tag p++t)= .ok (p,t):=by
 have e:fk tag p++t=tag :: (fq p.length++(p++(ml (mW (tag :: p))++t))):=by unfold fk;simp
 rw[e];unfold mQ;simp only[ne_eq,not_true_eq_false,if_false];rw[lC hp];simp only;have h4:(ml (mW (tag :: p))).length=4:=rfl;rw[if_neg (by simp only[ah,h4];omega),a_,bg,List.take_append_of_le_length (by rw[h4];omega),List.take_of_length_le (by rw[h4];omega),if_pos rfl];congr 2;rw[<-List.drop_drop,a_];rfl
structure ye where
 ts:List Th
 rts:List Nat
 last:Nat
def lz (p0 p1 p2 p3:List Nat):Option ye:=
 match rdNum p0 with
 | none=>none
 | some (last,q)=>match rdNum q with
   | none=>none
   | some (many,q')=>if q'≠[] then none else match jJ many p1 with
     | none=>none
     | some (ts,q1)=>if q1≠[] then none else match tI 64 p2 with
       | none=>none
       | some (rts,q2)=>if q2≠[]\/p3≠[] then none else some ⟨ts,rts,last⟩
def ly (b:List Nat):Except Nat ye:=
 match iy [72,79,82,90] b with
 | .error e=> .error e
 | .ok (ps,r)=>if r≠[] then .error 143 else match lz (ps.getD 0 []) (ps.getD 1 []) (ps.getD 2 []) (ps.getD 3 []) with
   | none=> .error 143
   | some i=> .ok i
def fL (ts:List Th):Nat:=1+(ts.map fun t=>3+t.x.size).sum
theorem G9 (ts:List Th)(t:Th):fL (ts++[t])=fL ts+(3+t.x.size):=by unfold fL;simp;omega
theorem DB (ts:List Th)(k:Nat):fL (ts.take k)<=fL ts:=by
 unfold fL
 conv=>rhs;rw[<-a8 k ts,bz,List.sum_append]
 omega
def kh (ts:List Th)(n:Nat):Nat:=if n=0 then 0 else if ts.length<n then 0 else (2*fL (ts.take (n-1)))%4294967296
def Ck (z:Nat):Int:=if z%2=0 then (z/2:Nat) else -(((z+1)/2:Nat):Int)
def rW (v:Int):Nat:=((2*v+1)%4294967296).toNat
def js (ts:List Th)(n:Nat):Nat:=if n%2=0 then kh ts (n/2) else rW (Ck (n/2))
theorem wW (ts:List Th)(n:Nat):kh ts n<4294967296:=by
 unfold kh;split;· omega
 split <;> omega
theorem wl (ts:List Th)(n:Nat):js ts n<4294967296:=by
 unfold js rW;split
 .exact wW _ _
 .omega
def Hd.apB (x:Hd):Bool:=decide (x.fmt=1) || decide (x.fmt=4)
def mz (ts:List Th)(t:Th):Ob:=⟨{ t.x with cls:=kh ts t.x.cls },if t.x.apB then t.fs.map (js ts) else t.fs⟩
theorem UG {ts:List Th}{t:Th}(h:t.Ok):(mz ts t).Ok:=by
 refine⟨⟨h.fit.size,h.fit.fmt,h.fit.spare,wW _ _,h.fit.ser⟩,h.may,?_,fun f hf=>?_⟩
 .unfold mz;simp only;split
  .rw[aO,h.size]
  .rw[h.size]
 .unfold mz at hf;simp only at hf;split at hf
  .obtain⟨n,_,rfl⟩:=aG.1 hf;exact wl _ _
  .exact h.f32 f hf
def jb (ts:List Th)(n:Nat):Bool:=decide (ts.length<n)
def fX (ts:List Th)(n:Nat):Bool:=decide (n%2=0) && jb ts (n/2)
def jB (ts:List Th)(t:Th):Bool:=jb ts t.x.cls || (t.x.apB && t.fs.any (fX ts))
def ye.words (i:ye):List Nat:=0 :: fV (i.ts.map (mz i.ts))
def ye.roots (i:ye):List Nat:=i.rts.map (js i.ts)
def ye.apm (i:ye):Bool:=i.ts.any (jB i.ts) || i.rts.any (fX i.ts)
structure Rd where
 ver:Nat
 words:List Nat
 roots:List Nat
 last:Nat
 apm:Bool
def gM (b:List Nat)(i:Nat):Nat:=b.getD i 0+b.getD (i+1) 0*256+b.getD (i+2) 0*65536+b.getD (i+3) 0*16777216
def uh (b:List Nat):Except Nat Rd:=
 if b.length<273\/b.length≠273+4*gM b 9 then .error 143
 else if mW (b.take (b.length-4))≠gM b (b.length-4) then .error 144
 else .ok ⟨1,(bN (gM b 9)).map (fun i=>gM b (13+4*i)),(bN 64).map (fun i=>gM b (13+4*gM b 9+4*i)),gM b 5,false⟩
def iD (b:List Nat):Except Nat Rd:=
 if 8388608<b.length then .error 2
 else if b.length<5\/b.take 4≠[69,70,73,71] then .error 140
 else if b.getD 4 0=1 then uh b
 else if b.getD 4 0=2 then match ly (b.drop 5) with
  | .error e=> .error e
  | .ok i=> .ok ⟨2,i.words,i.roots,i.last,i.apm⟩
 else .error 141
theorem N0 {ts:List Th}{L:List Nat}(hlen:ts.length=L.length)(hp:∀ k,k<L.length->2*fL (ts.take k)=L.getD k 0)(hL:∀ x∈L,x<4294967296)(o:Nat)(ho:o<4294967296)(hv:o%2=1\/o=0\/o∈L)(h0:0∉L):
 js ts (mj L o)=o/\fX ts (mj L o)=false:=by
 unfold mj js fX jb;by_cases h1:o%2=1
 .rw[if_pos h1];have Ov: -1073741824<=gF o:=by unfold gF;split <;> omega
  have Br:gF o<=1073741823:=by unfold gF;split <;> omega
  have hs:(2*gF o+1)%4294967296=o:=by unfold gF;split <;> omega
  by_cases hn:0<=gF o
  .have e:=Bd hn;have e1:Ck (Cl (gF o)/2)=gF o:=(by unfold Ck;rw[if_pos (by omega)];omega);refine⟨?_,by simp;omega⟩;rw[if_neg (by omega),e1];unfold rW;omega
  .have e:=Bc hn;have e1:Ck (Cl (gF o)/2)=gF o:=(by unfold Ck;rw[if_neg (by omega)];omega);refine⟨?_,by simp;omega⟩;rw[if_neg (by omega),e1];unfold rW;omega
 .rw[if_neg h1,if_pos (by omega),show 2*kt L o/2=kt L o by omega];unfold kh kt;rcases hv with h|rfl|h
  .omega
  .rw[if_neg h0];simp
  .have hi:=aT h;rw[if_pos h,if_neg (by omega),if_neg (by omega),bq,hp _ hi];have hg:L.getD (L.idxOf o) 0=o:=(by rw[aq,au hi];simp);rw[hg];exact⟨aW ho,by simp;omega⟩
theorem GK {ts:List Th}{L:List Nat}(hlen:ts.length=L.length)(hp:∀ k,k<L.length->2*fL (ts.take k)=L.getD k 0)(o:Nat)(ho:o<4294967296)(hv:o=0\/o∈L)(h0:0∉L):
 kh ts (kt L o)=o/\jb ts (kt L o)=false:=by
 unfold kh kt jb;rcases hv with rfl|h
 .rw[if_neg h0];simp
 .have hi:=aT h;rw[if_pos h,if_neg (by omega),if_neg (by omega),bq,hp _ hi];have hg:L.getD (L.idxOf o) 0=o:=by rw[aq,au hi];simp
  rw[hg];exact⟨aW ho,by simp;omega⟩
end
section
def kN (L:List Nat)(b:Ob):Th:=⟨{ b.x with cls:=kt L b.x.cls },if b.x.apB then b.fs.map (mj L) else b.fs⟩
theorem DU (L rs:List Nat):jk L rs=(rs.map (mj L)).flatMap fq:=by unfold jk;rw[List.flatMap_map]
theorem Ro {L:List Nat}(hL:L.length<=1048576){b:Ob}(K:b.Ok)(t:List Nat):
 Cj (fq (kt L b.x.cls)++([b.x.fmt+16*b.x.spare]++(fq b.x.size++(fq b.x.ser++t))))=some ({ b.x with cls:=kt L b.x.cls },t):=by
 have h1:=vK L b.x.cls;have h2:=K.fit.size;have h3:=K.fit.fmt;have h4:=K.fit.spare;unfold Cj;rw[lC (by omega)];simp only[List.singleton_append];rw[lC (by omega)];simp only;rw[lC K.fit.ser];simp only;rw[show (b.x.fmt+16*b.x.spare)%16=b.x.fmt by omega,show (b.x.fmt+16*b.x.spare)/16=b.x.spare by omega,if_pos];have hm:=K.may;unfold Ch Hd.may at*;simp only[Bool.and_eq_true,aY,decide_eq_true_eq]at*;exact⟨hm,h4⟩
theorem NA {L:List Nat}(hL:L.length<=1048576){b:Ob}(K:b.Ok)(hs:b.x.fmt=2->ic b.fs b.x.spare=0)(t:List Nat):jT (rL L b++t)=some (kN L b,t):=by
 have e:rL L b++t=fq (kt L b.x.cls)++([b.x.fmt+16*b.x.spare]++(fq b.x.size++(fq b.x.ser++(qu L b++t)))):=by unfold rL;simp only[ak]
 rw[e];unfold jT;rw[Ro hL K];simp only;have hm:=K.may;have h4:=K.fit.spare;unfold Hd.may at hm;simp at hm;unfold ER;by_cases h2:b.x.fmt=2
 .have hlen:b.x.len=4*b.fs.length-b.x.spare:=by unfold Hd.len;rw[if_pos h2,K.size]
  have hp:qu L b=(fg b.fs).take (4*b.fs.length-b.x.spare):=by unfold qu;rw[if_pos h2,hlen]
  have hpl:(qu L b).length=4*b.x.size-b.x.spare:=by rw[hp,aF,gK,K.size];omega
  rw[if_pos h2,if_pos (by rw[ah,hpl];simp only;omega),<-hpl,bg,a_,hp,ow (hs h2) (by omega) K.f32];unfold kN;rw[if_neg (by unfold Hd.apB;rw[h2];decide)]
 .rw[if_neg h2];by_cases h3:b.x.fmt=3
  .have hp:qu L b=b.fs.flatMap fq:=(by unfold qu;rw[if_neg h2,if_pos h3]);rw[hp,K.size,yH _ _ K.f32];unfold kN;rw[if_neg (by unfold Hd.apB;rw[h3];decide)];simp only[K.size]
  .have hp:qu L b=(b.fs.map (mj L)).flatMap fq:=(by unfold qu;rw[if_neg h2,if_neg h3,DU]);have hk:=yH t (b.fs.map (mj L)) (fun x hx=>by obtain⟨y,hy,rfl⟩:=aG.1 hx;exact sS hL (K.f32 y hy));rw[aO]at hk;rw[hp,K.size,hk];unfold kN;rw[if_pos (by unfold Hd.apB;simp;omega)];simp only[K.size]
theorem xP {L:List Nat}(hL:L.length<=1048576)(t:List Nat):∀ l:List Ob,(∀ b∈l,b.Ok/\(b.x.fmt=2->ic b.fs b.x.spare=0))->jJ l.length (iG L l++t)=some (l.map (kN L),t)
 | [],_=>rfl
 | b :: l,h=>by
   obtain⟨K,hs⟩:=h b (by simp);have e:iG L (b :: l)++t=rL L b++(iG L l++t):=(by unfold iG;rw[aA,ak]);rw[e,ar];unfold jJ;rw[NA hL K hs];simp only;rw[xP hL t l (fun x hx=>h x (by simp[hx]))];rfl
theorem vR (L:List Nat):∀ l:List Ob,(∀ b∈l,b.Ok)->fL (l.map (kN L))=eG l
 | [],_=>rfl
 | b :: l,h=>by
   have h1:=vR L l (fun x hx=>h x (by simp[hx]));have h2:=(h b (by simp)).size;unfold fL eG at*;rw[fD,ah,Ob.apt,bJ,bJ,List.sum_cons];simp only[kN]at*;omega
section
variable {h:HM}{l:List Ob}
theorem JN {k:Nat}(hk:k<l.length):(eZ l).getD k 0=2*eG (l.take k):=by
 rw[aq,nu hk];rfl
theorem Dp (L:h.Laid l){o:Nat}(ho:h.isB o=true):o∈eZ l:=by
 obtain⟨a,b,c,e,rfl⟩:=(L.apr o).1 ho;have hk:a.length<l.length:=by rw[e];simp
 have:=nu hk;rw[e,bg,<-e]at this;exact bj this
theorem JO (G:h.Good l):∀ x∈eZ l,x<4294967296:=by
 intro x hx;unfold eZ at hx;obtain⟨j,hj,rfl⟩:=aG.1 hx;have:=iJ G j (List.mem_range.1 hj);have:=G.fit.room;have:=G.fit.hi;omega
def xI (h:HM)(l:List Ob):ye:=⟨l.map (kN (eZ l)),h.roots.map (mj (eZ l)),h.last⟩
theorem Nv (x:Hd):x.apB=x.apb:=rfl
theorem MJ (G:h.Good l):(xI h l).words=h.words/\(xI h l).roots=h.roots/\(xI h l).apm=false:=by
 have hlen:(l.map (kN (eZ l))).length=(eZ l).length:=by rw[aO,fZ]
 have hp:∀ k,k<(eZ l).length->2*fL ((l.map (kN (eZ l))).take k)=(eZ l).getD k 0:=fun k hk=>by
  rw[fZ]at hk;rw[<-List.map_take,vR _ _ (fun b hb=>G.laid.ok b (aC hb)),JN hk]
 have h0:=JP l;have hc:∀ b∈l,kh (l.map (kN (eZ l))) (kt (eZ l) b.x.cls)=b.x.cls/\jb (l.map (kN (eZ l))) (kt (eZ l) b.x.cls)=false:=fun b hb=>by
  refine GK hlen hp _ (G.laid.ok b hb).fit.cls ?_ h0;have:=G.sound.cls b hb;unfold HM.apo at this;rw[aY,decide_eq_true_eq]at this;exact this.imp id (Dp G.laid)
 have hval:∀ v,v<4294967296->h.apc v=true->js (l.map (kN (eZ l))) (mj (eZ l) v)=v/\fX (l.map (kN (eZ l))) (mj (eZ l) v)=false:=fun v hv hb=>by
  refine N0 hlen hp (JO G) v hv ?_ h0;unfold HM.apc at hb;rw[aY,Bool.not_eq_true']at hb;rcases hb with hb|hb
  .unfold kH eR at hb;simp only[decide_eq_false_iff_not]at hb;by_cases hv0:v=0
   .exact .inr (.inl hv0)
   .rw[if_neg hv0]at hb;by_cases h1:v%2=1
    .exact .inl h1
    .rw[if_neg h1]at hb;exact absurd rfl hb
  .exact .inr (.inr (Dp G.laid hb))
 have hob:∀ b∈l,mz (l.map (kN (eZ l))) (kN (eZ l) b)=b/\jB (l.map (kN (eZ l))) (kN (eZ l) b)=false:=fun b hb=>by
  obtain⟨c1,c2⟩:=hc b hb;have CX:(kN (eZ l) b).x.apB=b.x.apB:=rfl;have mh:(kN (eZ l) b).x.cls=kt (eZ l) b.x.cls:=rfl;by_cases hb2:b.x.apB=true
  .have hf:(kN (eZ l) b).fs=b.fs.map (mj (eZ l)):=(by unfold kN;rw[if_pos hb2]);have hv:∀ v∈b.fs,js (l.map (kN (eZ l))) (mj (eZ l) v)=v/\fX (l.map (kN (eZ l))) (mj (eZ l) v)=false:=fun v hv=>hval v ((G.laid.ok b hb).f32 v hv) (G.sound.apU b hb (by rw[<-Nv];exact hb2) v hv);refine⟨?_,?_⟩
   .unfold mz;rw[CX,if_pos hb2,mh,c1,hf,br,aS (f:=js (l.map (kN (eZ l)))∘mj (eZ l)) (g:=id) (fun v hv'=>(hv v hv').1),bu];rfl
   .unfold jB;rw[mh,c2,CX,hb2,hf,Bool.false_or,Bool.true_and,aU];intro n hn;obtain⟨v,hv',rfl⟩:=aG.1 hn;rw[(hv v hv').2];decide
  .have hf:(kN (eZ l) b).fs=b.fs:=(by unfold kN;rw[if_neg hb2]);refine⟨?_,?_⟩
   .unfold mz;rw[CX,if_neg hb2,mh,c1,hf];rfl
   .unfold jB;rw[mh,c2,CX];simp[hb2]
 have hrt:∀ v∈h.roots,js (l.map (kN (eZ l))) (mj (eZ l) v)=v/\fX (l.map (kN (eZ l))) (mj (eZ l) v)=false:=fun v hv=>hval v (G.fit.r32 v hv) (G.sound.roots v hv);refine⟨?_,?_,?_⟩
 .unfold xI ye.words;simp only;rw[br,aS (f:=mz (l.map (kN (eZ l)))∘kN (eZ l)) (g:=id) (fun b hb=>(hob b hb).1),bu,G.laid.words]
 .unfold xI ye.roots;simp only;rw[br,aS (f:=js (l.map (kN (eZ l)))∘mj (eZ l)) (g:=id) (fun v hv=>(hrt v hv).1),bu]
 .unfold xI ye.apm;simp only;rw[Bool.or_eq_false_iff,aU,aU];refine⟨fun t ht=>?_,fun n hn=>?_⟩
  .obtain⟨b,hb,rfl⟩:=aG.1 ht;rw[(hob b hb).2];decide
  .obtain⟨v,hv,rfl⟩:=aG.1 hn;rw[(hrt v hv).2];decide
def uk (h:HM)(l:List Ob):List Nat:=fq h.last++fq l.length
def HM.apV (h:HM)(l:List Ob):List Nat:=[69,70,73,71,2]++(fk 72 (uk h l)++(fk 79 (iG (eZ l) l)++(fk 82 (jk (eZ l) h.roots)++fk 90 [])))
theorem GU {L:List Nat}(hL:L.length<=1048576):∀ bs:List Ob,(∀ b∈bs,b.Ok)->(iG L bs).length<=6*(fV bs).length
 | [],_=>by simp[iG]
 | b :: bs,h=>by
   have h1:=GU hL bs (fun x hx=>h x (by simp[hx]));have h2:=GQ hL (h b (by simp));unfold iG at*;rw[aA,ah,fD,ah,Ob.apt];omega
theorem Ns (G:h.Good l):lz (uk h l) (iG (eZ l) l) (jk (eZ l) h.roots) []=some (xI h l):=by
 have hL:=ki G;have h64:=G.fit.roots;have hl:l.length<4294967296:=by rw[fZ]at hL;omega
 have e1:=lC hl [];have e2:=xP hL [] l (fun b hb=>⟨G.laid.ok b hb,G.sound.spare b hb⟩);have e3:=yH [] (h.roots.map (mj (eZ l))) (fun x hx=>by obtain⟨y,hy,rfl⟩:=aG.1 hx;exact sS hL (G.fit.r32 y hy));rw[bD]at e1 e2 e3;rw[aO,h64]at e3;unfold lz uk;rw[lC G.fit.l32];simp only[e1,ne_eq,not_true_eq_false,if_false,e2];rw[DU,e3];simp only[not_true_eq_false,or_self,if_false];rfl
theorem fo {n:Nat}(h:n<4294967296):(fq n).length<=5:=gQ h
theorem rV (tag:Nat)(p:List Nat):(fk tag p).length=5+(fq p.length).length+p.length:=by
 unfold fk;simp only[ah,ml,ar,aN];omega
theorem Aj (G:h.Good l):(uk h l).length<=10/\(iG (eZ l) l).length<=6291456/\(jk (eZ l) h.roots).length<=320:=by
 have hL:=ki G;have hl:l.length<4294967296:=by rw[fZ]at hL;omega
 have h1:=fo G.fit.l32;have h2:=fo hl;have h3:=GU hL l G.laid.ok;have h4:=pM hL h.roots G.fit.r32;have h5:h.words.length=1+(fV l).length:=by rw[G.laid.words];simp;omega
 have:=G.fit.room;have:=G.fit.hi;have:=G.fit.roots;unfold uk;rw[ah];omega
theorem GL (G:h.Good l):(h.apV l).length<=8388608:=by
 obtain⟨h1,h2,h3⟩:=Aj G;have a1:=fo (show (uk h l).length<4294967296 by omega);have a2:=fo (show (iG (eZ l) l).length<4294967296 by omega);have a3:=fo (show (jk (eZ l) h.roots).length<4294967296 by omega);have a4:=fo (show ([]:List Nat).length<4294967296 by simp);unfold HM.apV;simp only[ah,rV,ar,aN];simp only[aN]at a4;omega
theorem UE (G:h.Good l):ly (fk 72 (uk h l)++(fk 79 (iG (eZ l) l)++(fk 82 (jk (eZ l) h.roots)++fk 90 [])))= .ok (xI h l):=by
 obtain⟨h1,h2,h3⟩:=Aj G;have e4:=qA 90 [] [] (by simp);rw[bD]at e4;unfold ly iy iy iy iy iy;rw[qA 72 _ _ (by omega)];simp only;rw[qA 79 _ _ (by omega)];simp only;rw[qA 82 _ _ (by omega)];simp only;rw[e4];simp only[ne_eq,not_true_eq_false,if_false,List.getD_cons_zero,List.getD_cons_succ,Ns G]
theorem RQ (G:h.Good l):iD (h.apV l)= .ok ⟨2,h.words,h.roots,h.last,false⟩:=by
 have hl:=GL G;obtain⟨w1,w2,w3⟩:=MJ G;have e:h.apV l=[69,70,73,71,2]++(fk 72 (uk h l)++(fk 79 (iG (eZ l) l)++(fk 82 (jk (eZ l) h.roots)++fk 90 []))):=rfl;have h5:5<=(h.apV l).length:=by rw[e,ah];simp
 have ht:(h.apV l).take 4=[69,70,73,71]:=by rw[e];rfl
 have hg:(h.apV l).getD 4 0=2:=by rw[e];rfl
 have hd:(h.apV l).drop 5=fk 72 (uk h l)++(fk 79 (iG (eZ l) l)++(fk 82 (jk (eZ l) h.roots)++fk 90 [])):=by rw[e];rfl
 unfold iD;rw[if_neg (by omega),ht,hg,hd,UE G,if_neg (by simp;omega),if_neg (by decide),if_pos rfl];simp only[w1,w2,w3];rfl
end
end
section
open Go.RowKit
attribute [local go_sem] ay
theorem qQ {F:Fence}{n:Nat}{ops:Array Oper}{rest:List Oper}{o:Oper}{a:Act}{Q:Exit->Act->World->Prop}{w w2:World}{B m c:Nat}{v:Value}{bs cs:List Nat}{A:Option Addr}(s x:Operand)
 (C:RB w2 w B v bs)(hr:eQ w w.heap.size 1 A m (fP cs))(hs:a.eval s=v)(hx:a.eval x= .slice A m c)(hn:bs.length+m<=100000000000000)
 (ho:o.op= .call { callee:=.builtin .append,args:=#[s,x],argTypes:=#[22,22] })(hgd:o.guard=none)
 (h:∀ v' w',RB w2 w' B v' (bs++cs)->w.grownBy w' v.ownBlock->wpListIn F n Tryz.prog ops Q rest (a.put o.dst v') w'):wpListIn F n Tryz.prog ops Q (o :: rest) a w:=by
 obtain⟨i0,iF,hz0,hz1,hz2⟩:=info_parts kW;refine wpListIn_plain hgd fun K hK'=>?_;obtain⟨v',w',hrun,h2,h3,h4⟩:=rS (P:=Tryz.prog) w B 22 o.type 5 i0 _ 1 1 Tryz.underlying22 iF hz0 hz1 hz2 rfl (by omega) v bs.length (fP bs) C.own w.heap.size A m c (fP cs) hr (kX _) (by simp only[maxLen];omega) (by omega) C.top;unfold Oper.wpIn;refine⟨?_,?_⟩
 .simp[Oper.about,ho,resolve,Target.leads,Sem.run_pure]
 .rw[Oper.semAt_plain F _ _ (by rw[ho];intro c hc';cases hc')];simp[execOp,ho,resolve,invoke,builtin,hs,hx,hrun,Result.andThen];exact hK' _ _ (h _ _ (C.app (by have:=hr.1;rw[gW,bt]at this;exact this) h2 h3) h3)
theorem pF (w:World)(x:Nat):eQ (w.alloc (.cells #[.int .u8 (x:Int)] 5)) (w.alloc (.cells #[.int .u8 (x:Int)] 5)).heap.size 1 (some ⟨w.heap.size,0,none⟩) 1 (fP [x]):=by
 have h:=DG w [x] 1 rfl;rw[bw];exact h
end
section
open Go.RowKit
attribute [local go_sem] ay
def iH (A:Option Addr)(c k:Nat):Option Addr:=if c=k then A else A.map (·.add (k*1))
theorem AK (w:World)(A:Option Addr)(n c k:Nat)(h:k<=n):(Instr.slice 22 (.slice A n c) (some (.int .i64 k)) none none).run Tryz.prog w= .ok (.slice (iH A c k) (n-k) (c-k)) w:=by
 have he:aX Tryz.prog 22=5:=by simp[aX,Tryz.underlying22]
 have hz:∀ w,(Go.sizeOf 5).run Tryz.prog w= .ok 1 w:=fun w=>by go_simp
 rw[run_slice_l (P:=Tryz.prog) w 22 A n c (by rw[he];exact Tryz.underlying22) .i64 k (by omega) (by omega),he,hz];simp only[Result.andThen,sliced,aL];rfl
theorem AJ (w:World)(A:Option Addr)(n c k:Nat)(h:k<=c):(Instr.slice 22 (.slice A n c) none (some (.int .i64 k)) none).run Tryz.prog w= .ok (.slice (iH A c 0) k c) w:=by
 have he:aX Tryz.prog 22=5:=by simp[aX,Tryz.underlying22]
 have hz:∀ w,(Go.sizeOf 5).run Tryz.prog w= .ok 1 w:=fun w=>by go_simp
 rw[run_slice_h (P:=Tryz.prog) w 22 A n c (by rw[he];exact Tryz.underlying22) .i64 k (by omega) (by omega),he,hz];simp only[Result.andThen,sliced,aL];rfl
theorem uo {w:World}{B n c k:Nat}{A:Option Addr}{bs:List Nat}(h:eQ w B 1 A n (fP bs))(hc:n<=c)(hk:k<=n):eQ w B 1 (iH A c k) (n-k) (fP (bs.drop k)):=by
 have hl:bs.length=n:=by have:=h.1;rw[gW]at this;omega
 refine⟨by rw[gW,bv];omega,fun hn=>?_⟩;obtain⟨ad,e,hb,hx⟩:=h.2 (by omega);subst e;unfold iH;rw[if_neg (by omega)];refine⟨ad.add (k*1),rfl,by rw[gi];exact hb,fun j u hu=>?_⟩;have:=hx (k+j) u (by unfold fP at hu ⊢;rw[aB,List.getElem?_drop]at hu;rw[aB];exact hu);rw[show (ad.add (k*1)).add j=ad.add (k+j) by unfold aM;by_cases KX:k=0 <;> by_cases hj:j=0 <;> simp[KX,hj,bE]];exact this
theorem qB {w:World}{B n c k:Nat}{A:Option Addr}{bs:List Nat}(h:eQ w B 1 A n (fP bs))(hk:k<=n):eQ w B 1 (iH A c 0) k (fP (bs.take k)):=by
 have hl:bs.length=n:=by have:=h.1;rw[gW]at this;omega
 refine⟨by rw[gW,aF];omega,fun hn=>?_⟩;obtain⟨ad,e,hb,hx⟩:=h.2 (by omega);subst e;have e:iH (some ad) c 0=some ad:=by
  unfold iH;split
  .rfl
  .simp[aM]
 rw[e];refine⟨ad,rfl,hb,fun j u hu=>hx j u ?_⟩;unfold fP at hu ⊢;rw[aB,bn]at hu;rw[aB];split at hu
 .exact hu
 .cases hu
structure lm (w:World) (L rg:Nat) (A:Option Addr) (c:Nat) (bs:List Nat) (bad:Bool):Prop where
 box:eW w rg 300 #[.slice A bs.length c,.bool bad]
 cap:bs.length<=c
 rd:eQ w L 1 A bs.length (fP bs)
 far:L<=rg
 b8:∀ x∈bs,x<256
structure kw (rg:Nat) (w w':World):Prop where
 os:w'.os=w.os
 tape:w'.tape=w.tape
 output:w'.output=w.output
 size:w.heap.size<=w'.heap.size
 same:∀ k,k<w.heap.size->k≠rg->w'.heap[k]? = w.heap[k]?
theorem kw.refl (rg:Nat)(w:World):kw rg w w:=⟨rfl,rfl,rfl,ai _,fun _ _ _=>rfl⟩
theorem kw.trans {rg:Nat}{w w' w'':World}(h:kw rg w w')(k:kw rg w' w''):kw rg w w'':=
 ⟨k.os.trans h.os,k.tape.trans h.tape,k.output.trans h.output,aP h.size k.size,fun i hi hne=>(k.same i (ax hi h.size) hne).trans (h.same i hi hne)⟩
theorem kw.set (rg i:Nat)(w:World)(v:Value):kw rg w (w.setCell ⟨rg,i,none⟩ v):=
 ⟨rfl,rfl,rfl,by simp[aI],fun k _ hne=>Below.heap_setCell w ⟨rg,i,none⟩ v k hne⟩
theorem kw.apa {rg:Nat}{w w':World}(h:Below w.heap.size w w'):kw rg w w':=⟨h.os,h.tape,h.output,h.size,fun k hk _=>h.block k hk⟩
theorem kw.below {rg B:Nat}{w w':World}(h:kw rg w w')(hB:B<=rg)(hw:B<=w.heap.size):Below B w w':=⟨h.os,h.tape,h.output,h.size,fun k hk=>h.same k (by omega) (by omega)⟩
theorem lm.below {w w':World}{L rg c:Nat}{A:Option Addr}{bs:List Nat}{bad:Bool}(R:lm w L rg A c bs bad)(h:Below w.heap.size w w'):lm w' L rg A c bs bad:=
 ⟨R.box.below h R.box.lt,R.cap,R.rd.below (h.mono (by have:=R.far;have:=R.box.lt;omega)),R.far,R.b8⟩
def TH {α:Type}(bad:Bool)(r:Option (α × List Nat))(v:α)(gJ:List Nat)(rq:Bool):Prop:=
 (rq=false->bad=false/\r=some (v,gJ))/\(bad=false->(∃ p,r=some p)->rq=false)
def VZ:List Nat->Option (Nat × List Nat)
 | []=>none
 | x :: t=>some (x,t)
def OH (L rg:Nat)(bs:List Nat)(bad:Bool)(w:World)(e:Ending)(w':World):Prop:=
 ∃ x A c gJ rq,e= .returned (.int .u8 (x:Nat))/\x<256/\lm w' L rg A c gJ rq/\kw rg w w'/\TH bad (VZ bs) x gJ rq/\∃ d,bs=d++gJ
theorem ul {w:World}{L rg c:Nat}{A:Option Addr}{bs:List Nat}{bad:Bool}(R:lm w L rg A c bs bad)(hn:bs.length<=9000000):
 Calls Tryz.prog 248 #[.pointer (some ⟨rg,0,none⟩)] w (OH L rg bs bad w):=by
 have c0:=R.box.cell 0;have c1:=R.box.cell 1;have z0:=R.box.frozen 0;have z1:=R.box.frozen 1
 match bs,R with
 | [],R=>
   have HF:=aa (show OH L rg [] bad w (.returned (.int .u8 0)) (w.setCell ⟨rg,1,none⟩ (.bool true)) from
    ⟨0,A,c,[],true,rfl,by decide,⟨R.box.apg 1 _,R.cap,R.rd.below (Below.setCell (Below.refl _ _) (p:=⟨rg,1,none⟩) R.far _),R.far,R.b8⟩,kw.set _ _ _ _,⟨fun h=>(by cases h),fun _ h=>by obtain⟨p,hp⟩:=h;cases hp⟩,[],rfl⟩)
   go_enter Tryz.func248,Tryz.ntmps248;go_wp2_with fail;go_ret;exact HF.o
 | x :: t,R=>
   have hc:=R.cap;rw[ar]at hc;have hx:=R.b8 x (by simp);obtain⟨ad,hA,hb,mh⟩:=R.rd.2 (by simp);subst hA;have h0:=mh 0 (.int .u8 (x:Nat)) (by simp[fP]);have e0:ad.add 0=ad:=(by simp[aM]);rw[e0]at h0;have Iw:=fun w=>AK w (some ad) (t.length+1) c 1 (by omega);have Fb:=uo (k:=1) R.rd R.cap (by simp);have HF:=aa (show ∀ A' c',iH (some ad) c 1=A'->c-1=c'->OH L rg (x :: t) bad w (.returned (.int .u8 (x:Nat))) (w.setCell ⟨rg,0,none⟩ (.slice A' t.length c')) from fun A' c' hA' hc'=>by
    subst hA' hc'
    exact⟨x,iH (some ad) c 1,c-1,t,bad,rfl,hx,⟨R.box.apg 0 _,by omega,by
     have:=Fb.below (Below.setCell (Below.refl _ _) (p:=⟨rg,0,none⟩) R.far (.slice (iH (some ad) c 1) (t.length+1-1) (c-1)));simpa using this,R.far,fun y hy=>R.b8 y (by simp[hy])⟩,kw.set _ _ _ _,⟨fun h=>⟨h,rfl⟩,fun h _=>h⟩,[x],rfl⟩)
   clear Fb R mh hb e0;rw[ar]at c0;go_enter Tryz.func248,Tryz.ntmps248;go_wp2_with fail;all_goals go_ret
   all_goals exact HF.o _ _ (by simp[iH,aM, *]) (by omega)
end
section
open Go.RowKit
attribute [local go_sem] ay
theorem sQ (x:Nat)(hx:x<256):bits .and .u8 (x:Int) 127=((x%128:Nat):Int):=by
 have h:=u8_and_nat x 127 hx (by omega);rw[show x &&& 127=x%128 from aQ x 7]at h;exact h
theorem pK (i m y:Nat)(hm:m<2 ^ i)(hy:y*2 ^ i<18446744073709551616)(wy:m<18446744073709551616):bits .or .u64 (m:Int) ((y*2 ^ i:Nat):Int)=((m+y*2 ^ i:Nat):Int):=by
 rw[u64_or_nat _ _ wy hy,Nat.or_comm,nat_join i _ _ (by simp) hm,Nat.add_comm]
def Xm (L rg:Nat)(bs:List Nat)(bad:Bool)(w:World)(e:Ending)(w':World):Prop:=
 ∃ v A c gJ rq,e= .returned (.int .u32 (v:Nat))/\v<4294967296/\lm w' L rg A c gJ rq/\kw rg w w'/\TH bad (rdNum bs) v gJ rq/\∃ d,bs=d++gJ
theorem jS {w W:World}{L rg c:Nat}{A:Option Addr}{bs gJ:List Nat}{bad rq:Bool}(R:lm W L rg A c gJ rq)(F:kw rg w W)(hd:∃ d,bs=d++gJ)(h:bad=true\/rdNum bs=none):
 Xm L rg bs bad w (.returned (.int .u32 0)) (W.setCell ⟨rg,1,none⟩ (.bool true)):=
 ⟨0,A,c,gJ,true,rfl,by decide,⟨R.box.apg 1 _,R.cap,R.rd.below (Below.setCell (Below.refl _ _) (p:=⟨rg,1,none⟩) R.far _),R.far,R.b8⟩,F.trans (kw.set _ _ _ _),⟨fun e=>(by cases e),fun e hp=>by
   obtain⟨p,hp⟩:=hp;rcases h with h|h
   .rw[h]at e;cases e
   .rw[h]at hp;cases hp⟩,hd⟩
theorem pD {w W:World}{L rg c v:Nat}{A:Option Addr}{bs gJ:List Nat}(hv:v<4294967296)(R:lm W L rg A c gJ false)(F:kw rg w W)(hd:∃ d,bs=d++gJ)(h:rdNum bs=some (v,gJ)):
 Xm L rg bs false w (.returned (.int .u32 (v:Nat))) W:=⟨v,A,c,gJ,false,rfl,hv,R,F,⟨fun _=>⟨rfl,h⟩,fun e _=>e⟩,hd⟩
def Vo (bs:List Nat)(bad:Bool)(i m:Nat)(gJ:List Nat):Prop:=m<128 ^ i/\(i=0\/bad=false)/\((i<=4/\Nz i m gJ=rdNum bs)\/(i=5/\rdNum bs=none))/\∃ d,bs=d++gJ
theorem Vo.stop {bs gJ t:List Nat}{bad:Bool}{i m x:Nat}(S:Vo bs bad i m gJ)(hb:gJ=x :: t)(h:i=5\/(0<i/\x=0)\/4294967296<=m+128 ^ i*(x%128))(hx:x<256):rdNum bs=none:=by
 obtain⟨h1,h2,h3|h3,h4⟩:=S
 .rw[<-h3.2,hb];unfold Nz;by_cases h128:x<128
  .rw[if_pos h128,if_pos];rcases h with h|h|h
   .omega
   .exact .inl ⟨h.2,h.1⟩
   .exact .inr h
  .rw[if_neg h128,if_pos];rcases h with h|h|h
   .omega
   .omega
   .have:x%128<128:=aH _ (by omega);rcases (by omega:i=0\/i=1\/i=2\/i=3\/i=4) with rfl|rfl|rfl|rfl|rfl <;> simp at h h1 <;> omega
 .exact h3.2
theorem Vo.done {bs gJ t:List Nat}{bad:Bool}{i m x:Nat}(S:Vo bs bad i m gJ)(hb:gJ=x :: t)(hi:i<=4)(h1:¬ (0<i/\x=0))(h2:m+128 ^ i*(x%128)<4294967296)(hx:x<128):rdNum bs=some (m+128 ^ i*(x%128),t):=by
 obtain⟨_,_,h3|h3,h4⟩:=S
 .rw[<-h3.2,hb];unfold Nz;rw[if_pos hx,if_neg (by omega)]
 .omega
theorem Vo.next {bs gJ t:List Nat}{bad:Bool}{i m x:Nat}(S:Vo bs bad i m gJ)(jv:bad=false)(hb:gJ=x :: t)(hi:i<=4)(hx:¬ x<128):Vo bs bad (i+1) (m+128 ^ i*(x%128)) t:=by
 obtain⟨h0,_,h3,d,h4⟩:=S;have h5:x%128<128:=aH _ (by omega);have h6:128 ^ i*(x%128)<=128 ^ i*127:=az _ (by omega);refine⟨by rw[bp];omega,.inr jv,?_,d++[x],by rw[h4,hb];simp⟩;rcases h3 with h3|h3
 .rw[hb]at h3;obtain⟨_,h3⟩:=h3;unfold Nz at h3;rw[if_neg hx]at h3;by_cases h4:4<=i
  .rw[if_pos h4]at h3;exact .inr ⟨by omega,h3.symm⟩
  .rw[if_neg h4]at h3;exact .inl ⟨by omega,h3⟩
 .omega
theorem ji {w:World}{L rg c:Nat}{A:Option Addr}{bs:List Nat}{bad:Bool}(R:lm w L rg A c bs bad)(hn:bs.length<=9000000):
 Calls Tryz.prog 197 #[.pointer (some ⟨rg,0,none⟩)] w (Xm L rg bs bad w):=by
 have HR:=aa R;clear R;go_enter Tryz.func197,Tryz.ntmps197;go_wp2_with fail
 go_step3
 go_wp2_with fail
 go_step3
 go_wp2_with fail
 go_loopw [3,4] (fun n s wr=>∃ (i m c':Nat) (A':Option Addr) (gJ:List Nat),s= .int .i64 ((7*i:Nat):Int)/\n= .int .u64 (m:Int)/\i<=5/\Vo bs bad i m gJ/\lm wr L rg A' c' gJ bad/\kw rg w wr) (fun _ s _=>40-(intOf s).toNat)
 case atStart=>exact⟨0,0,c,A,bs,rfl,rfl,by omega,⟨by decide,.inl rfl,.inl ⟨by omega,rfl⟩,[],rfl⟩,HR.o,kw.refl _ _⟩
 case round=>
  clear HR;obtain⟨i,m,c',A',gJ,rfl,rfl,hi,S,R,F⟩:=hrel;have HS:=aa S;have HF:=aa F;have hl':gJ.length<=9000000:=by obtain⟨_,_,_,d,h4⟩:=S;rw[h4,ah]at hn;omega
  have xH:m<2 ^ (7*i):=by rw[Nat.pow_mul];exact S.1
  have HB:=aa (ul R hl');clear S F R;obtain rfl|rfl|rfl|rfl|rfl|rfl:i=0\/i=1\/i=2\/i=3\/i=4\/i=5:=by omega
  .go_wp2_with fail;refine HB.o.mono ?_;rintro e w5 ⟨x,A5,c5,za,wJ,rfl,hx,R5,F5,D5,d5,Ex⟩;have j9:=aa R5;have mX:=aa (HF.o.trans F5);have k1:=R5.box.cell 1;have z1:=R5.box.frozen 1;have Gr:∃ d,bs=d++za:=(by obtain⟨_,_,_,d,h4⟩:=HS.o;exact⟨d++d5,by rw[h4,Ex,ak]⟩);have rj:=aa Gr;have HD:=aa D5;have QD:x%128<128:=aH _ (by omega);have nM:=sQ x hx;have hjn:=pK 0 m (x%128) xH (by omega) (ax xH (by decide));obtain⟨y,hy⟩ :∃ y,y=x%128:=⟨_,rfl⟩;obtain⟨N,hN⟩ :∃ N,N=m+128 ^ 0*(x%128):=⟨_,rfl⟩;have zu:N<128 ^ 0*128:=by
    have h6:128 ^ 0*(x%128)<=128 ^ 0*127:=az _ (by omega);have h7:m<128 ^ 0:=HS.o.1;omega
   have HN:=aa hN;rw[<-hy]at nM QD hjn hN;have hjN:bits .or .u64 (m:Int) ((y:Int))=(N:Int):=by
    rw[hN];have h0:m=0:=(by simpa using xH);subst h0;simpa using hjn
   simp only[aJ,aK]at zu;clear R5 F5 Gr HB D5 Ex hN hjn xH hy
   cases wJ with
   | true=>
     have HF:=aa (jS j9.o mX.o rj.o (show bad=true\/rdNum bs=none from by
      by_cases hb:bad=true
      .exact .inl hb
      .have hb':bad=false:=(by simpa using hb);obtain⟨_,h2⟩:=HD.o;have h3:∀ p,VZ gJ≠some p:=fun p hp=>by have:=h2 hb' ⟨p,hp⟩;cases this
       obtain⟨h4,h5,h6|h6,h7⟩:=HS.o
       .cases gJ with
        | nil=>rw[<-h6.2];exact .inr rfl
        | cons a t=>exact absurd rfl (h3 (a,t))
       .exact .inr h6.2))
     clear HD HS HN mX j9;go_wp2_with fail;rw[aj];go_ret;exact HF.o
   | false=>
     obtain⟨iY,tH⟩:=HD.o.1 rfl;have tC:gJ=x :: za:=by
      cases gJ with
      | nil=>cases tH
      | cons a t=>injection tH with h;injection h with h1 h2;rw[h1,h2]
     have jc:=aa tC;have iQ:=aa iY;clear tC iY tH HD;have mS:¬ 4294967296<=N:=(by omega);have hg:decide (4294967296<=(N:Int))=false:=(by simp;omega);by_cases h128:x<128
     .have hl:decide ((x:Int)<128)=true:=(by simp;omega);have HF:=aa (pD (v:=N) (by omega) j9.o mX.o rj.o (by rw[HS.o.done jc.o (by omega) (by omega) (by rw[<-HN.o];omega) h128,<-HN.o]));have yr:=aa iQ.o;clear HS HN mX j9 jc;go_wp2_with fail;try rw[aj]
      go_ret;have hw:(N:Int)%4294967296=(N:Int):=by omega
      subst_vars
      first|exact HF.o|(rw[iQ.o];exact HF.o)
     .have hl:decide ((x:Int)<128)=false:=(by simp;omega);have mn:=aa (HS.o.next iQ.o jc.o (by omega) h128);clear HS jc;go_wp2_with fail;go_roundw
      case rel=>exact⟨0+1,N,c5,A5,za,by go_num,rfl,by omega,by rw[HN.o];exact mn.o,by rw[iQ.o];exact j9.o,mX.o⟩
      case measure=>simp[intOf]
  .go_wp2_with fail;refine HB.o.mono ?_;rintro e w5 ⟨x,A5,c5,za,wJ,rfl,hx,R5,F5,D5,d5,Ex⟩;have j9:=aa R5;have mX:=aa (HF.o.trans F5);have k1:=R5.box.cell 1;have z1:=R5.box.frozen 1;have Gr:∃ d,bs=d++za:=(by obtain⟨_,_,_,d,h4⟩:=HS.o;exact⟨d++d5,by rw[h4,Ex,ak]⟩);have rj:=aa Gr;have HD:=aa D5;have QD:x%128<128:=aH _ (by omega);have nM:=sQ x hx;have hjn:=pK 7 m (x%128) xH (by omega) (ax xH (by decide));obtain⟨y,hy⟩ :∃ y,y=x%128:=⟨_,rfl⟩;obtain⟨N,hN⟩ :∃ N,N=m+128 ^ 1*(x%128):=⟨_,rfl⟩;have zu:N<128 ^ 1*128:=by
    have h6:128 ^ 1*(x%128)<=128 ^ 1*127:=az _ (by omega);have h7:m<128 ^ 1:=HS.o.1;omega
   have HN:=aa hN;rw[<-hy]at nM QD hjn hN;have hjN:bits .or .u64 (m:Int) ((y:Int)*128)=(N:Int):=by
    rw[hN];simpa[aR] using hjn
   simp only[aJ,aK]at zu;clear R5 F5 Gr HB D5 Ex hN hjn xH hy
   cases wJ with
   | true=>
     have HF:=aa (jS j9.o mX.o rj.o (show bad=true\/rdNum bs=none from by
      by_cases hb:bad=true
      .exact .inl hb
      .have hb':bad=false:=(by simpa using hb);obtain⟨_,h2⟩:=HD.o;have h3:∀ p,VZ gJ≠some p:=fun p hp=>by have:=h2 hb' ⟨p,hp⟩;cases this
       obtain⟨h4,h5,h6|h6,h7⟩:=HS.o
       .cases gJ with
        | nil=>rw[<-h6.2];exact .inr rfl
        | cons a t=>exact absurd rfl (h3 (a,t))
       .exact .inr h6.2))
     clear HD HS HN mX j9;go_wp2_with fail;rw[aj];go_ret;exact HF.o
   | false=>
     obtain⟨iY,tH⟩:=HD.o.1 rfl;have tC:gJ=x :: za:=by
      cases gJ with
      | nil=>cases tH
      | cons a t=>injection tH with h;injection h with h1 h2;rw[h1,h2]
     have jc:=aa tC;have iQ:=aa iY;clear tC iY tH HD;by_cases hx0:x=0
     .have hz:((x:Int) == 0)=true:=(by simp;omega);have HF:=aa (jS j9.o mX.o rj.o (show bad=true\/rdNum bs=none from .inr (HS.o.stop jc.o (.inr (.inl ⟨by omega,hx0⟩)) hx)));clear HS HN mX j9 jc;clear hx0;go_wp2_with fail;rw[aj];go_ret;exact HF.o
     .have hz:((x:Int) == 0)=false:=(by simp;omega);have mS:¬ 4294967296<=N:=(by omega);have hg:decide (4294967296<=(N:Int))=false:=(by simp;omega);by_cases h128:x<128
      .have hl:decide ((x:Int)<128)=true:=(by simp;omega);have HF:=aa (pD (v:=N) (by omega) j9.o mX.o rj.o (by rw[HS.o.done jc.o (by omega) (by omega) (by rw[<-HN.o];omega) h128,<-HN.o]));have yr:=aa iQ.o;clear HS HN mX j9 jc;go_wp2_with fail;try rw[aj]
       go_ret;have hw:(N:Int)%4294967296=(N:Int):=by omega
       subst_vars
       first|exact HF.o|(rw[iQ.o];exact HF.o)
      .have hl:decide ((x:Int)<128)=false:=(by simp;omega);have mn:=aa (HS.o.next iQ.o jc.o (by omega) h128);clear HS jc;go_wp2_with fail;go_roundw
       case rel=>exact⟨1+1,N,c5,A5,za,by go_num,rfl,by omega,by rw[HN.o];exact mn.o,by rw[iQ.o];exact j9.o,mX.o⟩
       case measure=>simp[intOf]
  .go_wp2_with fail;refine HB.o.mono ?_;rintro e w5 ⟨x,A5,c5,za,wJ,rfl,hx,R5,F5,D5,d5,Ex⟩;have j9:=aa R5;have mX:=aa (HF.o.trans F5);have k1:=R5.box.cell 1;have z1:=R5.box.frozen 1;have Gr:∃ d,bs=d++za:=(by obtain⟨_,_,_,d,h4⟩:=HS.o;exact⟨d++d5,by rw[h4,Ex,ak]⟩);have rj:=aa Gr;have HD:=aa D5;have QD:x%128<128:=aH _ (by omega);have nM:=sQ x hx;have hjn:=pK 14 m (x%128) xH (by omega) (ax xH (by decide));obtain⟨y,hy⟩ :∃ y,y=x%128:=⟨_,rfl⟩;obtain⟨N,hN⟩ :∃ N,N=m+128 ^ 2*(x%128):=⟨_,rfl⟩;have zu:N<128 ^ 2*128:=by
    have h6:128 ^ 2*(x%128)<=128 ^ 2*127:=az _ (by omega);have h7:m<128 ^ 2:=HS.o.1;omega
   have HN:=aa hN;rw[<-hy]at nM QD hjn hN;have hjN:bits .or .u64 (m:Int) ((y:Int)*16384)=(N:Int):=by
    rw[hN];simpa[aR] using hjn
   simp only[aJ,aK]at zu;clear R5 F5 Gr HB D5 Ex hN hjn xH hy
   cases wJ with
   | true=>
     have HF:=aa (jS j9.o mX.o rj.o (show bad=true\/rdNum bs=none from by
      by_cases hb:bad=true
      .exact .inl hb
      .have hb':bad=false:=(by simpa using hb);obtain⟨_,h2⟩:=HD.o;have h3:∀ p,VZ gJ≠some p:=fun p hp=>by have:=h2 hb' ⟨p,hp⟩;cases this
       obtain⟨h4,h5,h6|h6,h7⟩:=HS.o
       .cases gJ with
        | nil=>rw[<-h6.2];exact .inr rfl
        | cons a t=>exact absurd rfl (h3 (a,t))
       .exact .inr h6.2))
     clear HD HS HN mX j9;go_wp2_with fail;rw[aj];go_ret;exact HF.o
   | false=>
     obtain⟨iY,tH⟩:=HD.o.1 rfl;have tC:gJ=x :: za:=by
      cases gJ with
      | nil=>cases tH
      | cons a t=>injection tH with h;injection h with h1 h2;rw[h1,h2]
     have jc:=aa tC;have iQ:=aa iY;clear tC iY tH HD;by_cases hx0:x=0
     .have hz:((x:Int) == 0)=true:=(by simp;omega);have HF:=aa (jS j9.o mX.o rj.o (show bad=true\/rdNum bs=none from .inr (HS.o.stop jc.o (.inr (.inl ⟨by omega,hx0⟩)) hx)));clear HS HN mX j9 jc;clear hx0;go_wp2_with fail;rw[aj];go_ret;exact HF.o
     .have hz:((x:Int) == 0)=false:=(by simp;omega);have mS:¬ 4294967296<=N:=(by omega);have hg:decide (4294967296<=(N:Int))=false:=(by simp;omega);by_cases h128:x<128
      .have hl:decide ((x:Int)<128)=true:=(by simp;omega);have HF:=aa (pD (v:=N) (by omega) j9.o mX.o rj.o (by rw[HS.o.done jc.o (by omega) (by omega) (by rw[<-HN.o];omega) h128,<-HN.o]));have yr:=aa iQ.o;clear HS HN mX j9 jc;go_wp2_with fail;try rw[aj]
       go_ret;have hw:(N:Int)%4294967296=(N:Int):=by omega
       subst_vars
       first|exact HF.o|(rw[iQ.o];exact HF.o)
      .have hl:decide ((x:Int)<128)=false:=(by simp;omega);have mn:=aa (HS.o.next iQ.o jc.o (by omega) h128);clear HS jc;go_wp2_with fail;go_roundw
       case rel=>exact⟨2+1,N,c5,A5,za,by go_num,rfl,by omega,by rw[HN.o];exact mn.o,by rw[iQ.o];exact j9.o,mX.o⟩
       case measure=>simp[intOf]
  .go_wp2_with fail;refine HB.o.mono ?_;rintro e w5 ⟨x,A5,c5,za,wJ,rfl,hx,R5,F5,D5,d5,Ex⟩;have j9:=aa R5;have mX:=aa (HF.o.trans F5);have k1:=R5.box.cell 1;have z1:=R5.box.frozen 1;have Gr:∃ d,bs=d++za:=(by obtain⟨_,_,_,d,h4⟩:=HS.o;exact⟨d++d5,by rw[h4,Ex,ak]⟩);have rj:=aa Gr;have HD:=aa D5;have QD:x%128<128:=aH _ (by omega);have nM:=sQ x hx;have hjn:=pK 21 m (x%128) xH (by omega) (ax xH (by decide));obtain⟨y,hy⟩ :∃ y,y=x%128:=⟨_,rfl⟩;obtain⟨N,hN⟩ :∃ N,N=m+128 ^ 3*(x%128):=⟨_,rfl⟩;have zu:N<128 ^ 3*128:=by
    have h6:128 ^ 3*(x%128)<=128 ^ 3*127:=az _ (by omega);have h7:m<128 ^ 3:=HS.o.1;omega
   have HN:=aa hN;rw[<-hy]at nM QD hjn hN;have hjN:bits .or .u64 (m:Int) ((y:Int)*2097152)=(N:Int):=by
    rw[hN];simpa[aR] using hjn
   simp only[aJ,aK]at zu;clear R5 F5 Gr HB D5 Ex hN hjn xH hy
   cases wJ with
   | true=>
     have HF:=aa (jS j9.o mX.o rj.o (show bad=true\/rdNum bs=none from by
      by_cases hb:bad=true
      .exact .inl hb
      .have hb':bad=false:=(by simpa using hb);obtain⟨_,h2⟩:=HD.o;have h3:∀ p,VZ gJ≠some p:=fun p hp=>by have:=h2 hb' ⟨p,hp⟩;cases this
       obtain⟨h4,h5,h6|h6,h7⟩:=HS.o
       .cases gJ with
        | nil=>rw[<-h6.2];exact .inr rfl
        | cons a t=>exact absurd rfl (h3 (a,t))
       .exact .inr h6.2))
     clear HD HS HN mX j9;go_wp2_with fail;rw[aj];go_ret;exact HF.o
   | false=>
     obtain⟨iY,tH⟩:=HD.o.1 rfl;have tC:gJ=x :: za:=by
      cases gJ with
      | nil=>cases tH
      | cons a t=>injection tH with h;injection h with h1 h2;rw[h1,h2]
     have jc:=aa tC;have iQ:=aa iY;clear tC iY tH HD;by_cases hx0:x=0
     .have hz:((x:Int) == 0)=true:=(by simp;omega);have HF:=aa (jS j9.o mX.o rj.o (show bad=true\/rdNum bs=none from .inr (HS.o.stop jc.o (.inr (.inl ⟨by omega,hx0⟩)) hx)));clear HS HN mX j9 jc;clear hx0;go_wp2_with fail;rw[aj];go_ret;exact HF.o
     .have hz:((x:Int) == 0)=false:=(by simp;omega);have mS:¬ 4294967296<=N:=(by omega);have hg:decide (4294967296<=(N:Int))=false:=(by simp;omega);by_cases h128:x<128
      .have hl:decide ((x:Int)<128)=true:=(by simp;omega);have HF:=aa (pD (v:=N) (by omega) j9.o mX.o rj.o (by rw[HS.o.done jc.o (by omega) (by omega) (by rw[<-HN.o];omega) h128,<-HN.o]));have yr:=aa iQ.o;clear HS HN mX j9 jc;go_wp2_with fail;try rw[aj]
       go_ret;have hw:(N:Int)%4294967296=(N:Int):=by omega
       subst_vars
       first|exact HF.o|(rw[iQ.o];exact HF.o)
      .have hl:decide ((x:Int)<128)=false:=(by simp;omega);have mn:=aa (HS.o.next iQ.o jc.o (by omega) h128);clear HS jc;go_wp2_with fail;go_roundw
       case rel=>exact⟨3+1,N,c5,A5,za,by go_num,rfl,by omega,by rw[HN.o];exact mn.o,by rw[iQ.o];exact j9.o,mX.o⟩
       case measure=>simp[intOf]
  .go_wp2_with fail;refine HB.o.mono ?_;rintro e w5 ⟨x,A5,c5,za,wJ,rfl,hx,R5,F5,D5,d5,Ex⟩;have j9:=aa R5;have mX:=aa (HF.o.trans F5);have k1:=R5.box.cell 1;have z1:=R5.box.frozen 1;have Gr:∃ d,bs=d++za:=(by obtain⟨_,_,_,d,h4⟩:=HS.o;exact⟨d++d5,by rw[h4,Ex,ak]⟩);have rj:=aa Gr;have HD:=aa D5;have QD:x%128<128:=aH _ (by omega);have nM:=sQ x hx;have hjn:=pK 28 m (x%128) xH (by omega) (ax xH (by decide));obtain⟨y,hy⟩ :∃ y,y=x%128:=⟨_,rfl⟩;obtain⟨N,hN⟩ :∃ N,N=m+128 ^ 4*(x%128):=⟨_,rfl⟩;have zu:N<128 ^ 4*128:=by
    have h6:128 ^ 4*(x%128)<=128 ^ 4*127:=az _ (by omega);have h7:m<128 ^ 4:=HS.o.1;omega
   have HN:=aa hN;rw[<-hy]at nM QD hjn hN;have hjN:bits .or .u64 (m:Int) ((y:Int)*268435456)=(N:Int):=by
    rw[hN];simpa[aR] using hjn
   simp only[aJ,aK]at zu;clear R5 F5 Gr HB D5 Ex hN hjn xH hy
   cases wJ with
   | true=>
     have HF:=aa (jS j9.o mX.o rj.o (show bad=true\/rdNum bs=none from by
      by_cases hb:bad=true
      .exact .inl hb
      .have hb':bad=false:=(by simpa using hb);obtain⟨_,h2⟩:=HD.o;have h3:∀ p,VZ gJ≠some p:=fun p hp=>by have:=h2 hb' ⟨p,hp⟩;cases this
       obtain⟨h4,h5,h6|h6,h7⟩:=HS.o
       .cases gJ with
        | nil=>rw[<-h6.2];exact .inr rfl
        | cons a t=>exact absurd rfl (h3 (a,t))
       .exact .inr h6.2))
     clear HD HS HN mX j9;go_wp2_with fail;rw[aj];go_ret;exact HF.o
   | false=>
     obtain⟨iY,tH⟩:=HD.o.1 rfl;have tC:gJ=x :: za:=by
      cases gJ with
      | nil=>cases tH
      | cons a t=>injection tH with h;injection h with h1 h2;rw[h1,h2]
     have jc:=aa tC;have iQ:=aa iY;clear tC iY tH HD;by_cases hx0:x=0
     .have hz:((x:Int) == 0)=true:=(by simp;omega);have HF:=aa (jS j9.o mX.o rj.o (show bad=true\/rdNum bs=none from .inr (HS.o.stop jc.o (.inr (.inl ⟨by omega,hx0⟩)) hx)));clear HS HN mX j9 jc;clear hx0;go_wp2_with fail;rw[aj];go_ret;exact HF.o
     .have hz:((x:Int) == 0)=false:=(by simp;omega);by_cases mS:4294967296<=N
      .have hg:decide (4294967296<=(N:Int))=true:=(by simp;omega);have HF:=aa (jS j9.o mX.o rj.o (show bad=true\/rdNum bs=none from .inr (HS.o.stop jc.o (.inr (.inr (by rw[<-HN.o];exact mS))) hx)));clear HS HN mX j9 jc;go_wp2_with fail;rw[aj];go_ret;exact HF.o
      .have hg:decide (4294967296<=(N:Int))=false:=(by simp;omega);by_cases h128:x<128
       .have hl:decide ((x:Int)<128)=true:=(by simp;omega);have HF:=aa (pD (v:=N) (by omega) j9.o mX.o rj.o (by rw[HS.o.done jc.o (by omega) (by omega) (by rw[<-HN.o];omega) h128,<-HN.o]));have yr:=aa iQ.o;clear HS HN mX j9 jc;go_wp2_with fail;try rw[aj]
        go_ret;have hw:(N:Int)%4294967296=(N:Int):=by omega
        subst_vars
        first|exact HF.o|(rw[iQ.o];exact HF.o)
       .have hl:decide ((x:Int)<128)=false:=(by simp;omega);have mn:=aa (HS.o.next iQ.o jc.o (by omega) h128);clear HS jc;go_wp2_with fail;go_roundw
        case rel=>exact⟨4+1,N,c5,A5,za,by go_num,rfl,by omega,by rw[HN.o];exact mn.o,by rw[iQ.o];exact j9.o,mX.o⟩
        case measure=>simp[intOf]
  .go_wp2_with fail;refine HB.o.mono ?_;rintro e w5 ⟨x,A5,c5,za,wJ,rfl,hx,R5,F5,D5,d5,Ex⟩;have j9:=aa R5;have mX:=aa (HF.o.trans F5);have k1:=R5.box.cell 1;have z1:=R5.box.frozen 1;have Gr:∃ d,bs=d++za:=(by obtain⟨_,_,_,d,h4⟩:=HS.o;exact⟨d++d5,by rw[h4,Ex,ak]⟩);have rj:=aa Gr;have HD:=aa D5;have QD:x%128<128:=aH _ (by omega);have nM:=sQ x hx;have hjn:=pK 35 m (x%128) xH (by omega) (ax xH (by decide));obtain⟨y,hy⟩ :∃ y,y=x%128:=⟨_,rfl⟩;obtain⟨N,hN⟩ :∃ N,N=m+128 ^ 5*(x%128):=⟨_,rfl⟩;have zu:N<128 ^ 5*128:=by
    have h6:128 ^ 5*(x%128)<=128 ^ 5*127:=az _ (by omega);have h7:m<128 ^ 5:=HS.o.1;omega
   have HN:=aa hN;rw[<-hy]at nM QD hjn hN;have hjN:bits .or .u64 (m:Int) ((y:Int)*34359738368)=(N:Int):=by
    rw[hN];simpa[aR] using hjn
   simp only[aJ,aK]at zu;clear R5 F5 Gr HB D5 Ex hN hjn xH hy
   cases wJ with
   | true=>
     have HF:=aa (jS j9.o mX.o rj.o (show bad=true\/rdNum bs=none from by
      by_cases hb:bad=true
      .exact .inl hb
      .have hb':bad=false:=(by simpa using hb);obtain⟨_,h2⟩:=HD.o;have h3:∀ p,VZ gJ≠some p:=fun p hp=>by have:=h2 hb' ⟨p,hp⟩;cases this
       obtain⟨h4,h5,h6|h6,h7⟩:=HS.o
       .cases gJ with
        | nil=>rw[<-h6.2];exact .inr rfl
        | cons a t=>exact absurd rfl (h3 (a,t))
       .exact .inr h6.2))
     clear HD HS HN mX j9;go_wp2_with fail;rw[aj];go_ret;exact HF.o
   | false=>
     obtain⟨iY,tH⟩:=HD.o.1 rfl;have tC:gJ=x :: za:=by
      cases gJ with
      | nil=>cases tH
      | cons a t=>injection tH with h;injection h with h1 h2;rw[h1,h2]
     have jc:=aa tC;have iQ:=aa iY;clear tC iY tH HD;have HF:=aa (jS j9.o mX.o rj.o (show bad=true\/rdNum bs=none from .inr (HS.o.stop jc.o (.inl rfl) hx)));clear HS HN mX j9 jc;go_wp2_with fail;rw[aj];go_ret;exact HF.o
end
section
open Go.RowKit
attribute [local go_sem] ay
def V6 (L rg:Nat)(A:Option Addr)(c:Nat)(bs:List Nat)(bad:Bool)(n:Nat)(w:World)(e:Ending)(w':World):Prop:=
 kw rg w w'/\((n<=bs.length/\e= .returned (.slice (iH A c 0) n c)/\lm w' L rg (iH A c n) (c-n) (bs.drop n) bad)\/(bs.length<n/\e= .returned (.slice none 0 0)/\lm w' L rg A c bs true))
theorem rP {w:World}{L rg c:Nat}{A:Option Addr}{bs:List Nat}{bad:Bool}(R:lm w L rg A c bs bad)(hn:bs.length<=9000000)(n:Nat)(am8:n<=9000000000):
 Calls Tryz.prog 249 #[.pointer (some ⟨rg,0,none⟩),.int .i64 n] w (V6 L rg A c bs bad n w):=by
 have c0:=R.box.cell 0;have c1:=R.box.cell 1;have z0:=R.box.frozen 0;have z1:=R.box.frozen 1;have hc:=R.cap;by_cases h:bs.length<n
 .have hd:decide ((bs.length:Int)<(n:Int))=true:=by simp;omega
  have HF:=aa (show V6 L rg A c bs bad n w (.returned (.slice none 0 0)) (w.setCell ⟨rg,1,none⟩ (.bool true)) from
   ⟨kw.set _ _ _ _,.inr ⟨h,rfl,⟨R.box.apg 1 _,R.cap,R.rd.below (Below.setCell (Below.refl _ _) (p:=⟨rg,1,none⟩) R.far _),R.far,R.b8⟩⟩⟩)
  clear R;go_enter Tryz.func249,Tryz.ntmps249;go_wp2_with fail;go_ret;exact HF.o
 .have hd:decide ((bs.length:Int)<(n:Int))=false:=by simp;omega
  have SB:(bs.drop n).length=bs.length-n:=by simp
  have HF:=aa (show ∀ A1 A2 k2 c2,iH A c 0=A1->iH A c n=A2->bs.length-n=k2->c-n=c2->V6 L rg A c bs bad n w (.returned (.slice A1 n c)) (w.setCell ⟨rg,0,none⟩ (.slice A2 k2 c2)) from by
   rintro A1 A2 k2 c2 rfl rfl rfl rfl;refine⟨kw.set _ _ _ _,.inl ⟨by omega,rfl,⟨?_,by rw[SB];omega,?_,R.far,fun x hx=>R.b8 x (List.mem_of_mem_drop hx)⟩⟩⟩
   .rw[SB];exact R.box.apg 0 _
   .rw[SB];exact (uo (k:=n) R.rd R.cap (by omega)).below (Below.setCell (Below.refl _ _) (p:=⟨rg,0,none⟩) R.far _))
  have hc1:(n:Int)<=(c:Int):=by omega
  have hc2:(n:Int)<=(bs.length:Int):=by omega
  clear R;by_cases Sz:c=n
  .subst Sz;go_enter Tryz.func249,Tryz.ntmps249;go_wp2_with fail;all_goals go_ret
   all_goals refine HF.o _ _ _ _ ?_ ?_ ?_ ?_
   all_goals first|omega|(simp[iH,aM, *];done)|(simp[iH,aM, *];omega)
  .have amm:n≠c:=fun e=>Sz e.symm;go_enter Tryz.func249,Tryz.ntmps249;go_wp2_with fail;all_goals go_ret
   all_goals refine HF.o _ _ _ _ ?_ ?_ ?_ ?_
   all_goals first|omega|(simp[iH,aM, *];done)|(simp[iH,aM, *];omega)
end
section
open Go.RowKit
attribute [local go_sem] ay
theorem UI {x:Hd}(h:x.spare<4):Ch x=x.may:=by unfold Ch;rw[decide_eq_true h,Bool.and_true]
theorem zU {x:Hd}(h:65535<x.size):Ch x=false:=by unfold Ch Hd.may;rw[decide_eq_false (by omega)];rfl
theorem UH {x:Hd}(h:5<=x.fmt):Ch x=false:=by unfold Ch Hd.may;rw[show decide (x.fmt<=4)=false from decide_eq_false (by omega)];simp
theorem Q8 {x:Hd}(h:x.fmt<=0):Ch x=false:=by unfold Ch Hd.may;rw[show decide (1<=x.fmt)=false from decide_eq_false (by omega)];simp
theorem M_ {x:Hd}(h:4<=x.spare):Ch x=false:=by unfold Ch;rw[show decide (x.spare<4)=false from decide_eq_false (by omega)];simp
theorem QT (x:Hd)(h1:x.size<4294967296)(h2:x.fmt<16)(h3:x.spare<16)(h4:x.cls<4294967296)(h5:x.ser<4294967296)(w:World)(hs:eX w):
 Calls Tryz.prog 225 #[x.val] w fun e w'=>e= .returned (.bool (Ch x))/\Below w.heap.size w w':=by
 by_cases ha:65535<x.size
 .have HF:=aa (zU ha);obtain⟨n,t,s,c,r⟩:=x;simp only at ha h1 h2 h3 h4 h5;unfold Hd.val;have hai:(65535:Int)<(n:Int):=by omega
  go_enter Tryz.func225,Tryz.ntmps225;go_wp2_with fail;go_ret;exact⟨by rw[HF.o];rfl,(Below.refl _ _).alloc (ai _) _⟩
 by_cases hb:5<=x.fmt
 .have HF:=aa (UH hb);obtain⟨n,t,s,c,r⟩:=x;simp only at ha hb h1 h2 h3 h4 h5;unfold Hd.val;go_enter Tryz.func225,Tryz.ntmps225;go_wp2_with fail;go_ret;exact⟨by rw[HF.o];rfl,(Below.refl _ _).alloc (ai _) _⟩
 by_cases hc:4<=x.spare
 .by_cases h0:x.fmt<=0
  .have HF:=aa (Q8 h0);obtain⟨n,t,s,c,r⟩:=x;simp only at ha hb hc h0 h1 h2 h3 h4 h5;unfold Hd.val;go_enter Tryz.func225,Tryz.ntmps225;go_wp2_with fail;go_ret;exact⟨by rw[HF.o];rfl,(Below.refl _ _).alloc (ai _) _⟩
  .have HF:=aa (M_ hc);obtain⟨n,t,s,c,r⟩:=x;simp only at ha hb hc h0 h1 h2 h3 h4 h5;have hci:(3:Int)<(s:Int):=(by omega);unfold Hd.val;go_enter Tryz.func225,Tryz.ntmps225;go_wp2_with fail;go_ret;exact⟨by rw[HF.o];rfl,(Below.refl _ _).alloc (ai _) _⟩
 .rw[UI (by omega)];exact yD x ⟨by omega,by omega,by omega,h4,h5⟩ w hs
theorem y5 (x:Hd)(h1:x.size<4294967296)(h2:x.fmt<16)(h3:x.spare<16)(h4:x.cls<4294967296)(h5:x.ser<4294967296)(hm:Ch x=false)(w:World)(hs:eX w):
 Calls Tryz.prog 205 #[x.val] w fun e w'=>e= .returned (.tuple #[.agg #[.int .u32 0,.int .u32 0,.int .u32 0],.int .i64 1])/\Below w.heap.size w w':=by
 have hv:x.val= .agg #[.int .i64 x.size,.int .i64 x.fmt,.int .i64 x.spare,.int .u32 x.cls,.int .u32 x.ser]:=rfl;rw[hv];go_enter Tryz.func205,Tryz.ntmps205;go_wp2_with fail;rw[<-hv];refine (QT x h1 h2 h3 h4 h5 _ (hs.below (((Below.refl _ _).alloc (ai _) _).alloc (by simp) _))).mono ?_;rintro e w1 ⟨rfl,hb1⟩;rw[hm];have hb:Below w.heap.size w w1:=(((Below.refl _ _).alloc (ai _) _).alloc (by simp) _).trans (hb1.mono (by simp;omega));have B2:=eW.below (eW.new (w.alloc _) _ _) hb1 (by simp);rw[bw]at B2;clear hb1;obtain⟨d0,d1,d2⟩:=B2.aqi;have z2:=B2.fz;have hz2:=B2.lt;go_wp2_with fail;have B3:=B2.ap1 (.int .u32 0) (.int .u32 0) (.int .u32 0);obtain⟨f0,f1,f2⟩:=B3.aqi;refine bodyPost_ret (v:=.tuple #[.agg #[.int .u32 0,.int .u32 0,.int .u32 0],.int .i64 1]) (by simp[results,Tryz.results205,go_sem,f0,f1,f2]) rfl ⟨rfl,?_⟩;exact ((hb.setCell (by simp) _).setCell (by simp) _).setCell (by simp) _
end
section
open Go.RowKit
attribute [local go_sem] ay
theorem eW.fr1 {w w':World}{g rg:Nat}{t:TypeId}{c:Array Value}(b:eW w g t c)(F:kw rg w w')(h:g≠rg):eW w' g t c:=b.same (F.same g b.lt h)
theorem lm.set {w:World}{L rg c g i:Nat}{A:Option Addr}{bs:List Nat}{bad:Bool}{v:Value}(R:lm w L rg A c bs bad)(h:g≠rg)(hL:L<=g):lm (w.setCell ⟨g,i,none⟩ v) L rg A c bs bad:=
 ⟨R.box.same (Below.heap_setCell w ⟨g,i,none⟩ v rg h.symm),R.cap,R.rd.below (Below.setCell (Below.refl _ _) (p:=⟨g,i,none⟩) hL v),R.far,R.b8⟩
def qH (x:Hd)(vf:Value)(at_:Nat):Array Value:=#[.int .i64 x.size,.int .i64 x.fmt,.int .i64 x.spare,.int .u32 0,.int .u32 x.ser,.int .u32 x.cls,vf,.int .i64 at_]
def Fc (x:Hd)(vf:Value)(at_:Nat):Value:=.agg (qH x vf at_)
def ThV (lo:Nat)(w:World)(t:Th)(v:Value):Prop:=∃ (A:Option Addr) (c:Nat),v=Fc t.x (.slice A t.fs.length c) 0/\eQ w w.heap.size 1 A t.fs.length (eN t.fs)/\∀ a,A=some a->lo<=a.block
def afR (L rg:Nat)(bs:List Nat)(w:World)(e:Ending)(w':World):Prop:=
 ∃ v A c gJ rq,e= .returned v/\(∃ (x:Hd) (Af:Option Addr) (nf cf:Nat),v=Fc x (.slice Af nf cf) 0)/\lm w' L rg A c gJ rq/\kw rg w w'/\(rq=true->jT bs=none)/\(rq=false->∃ t,jT bs=some (t,gJ)/\ThV w.heap.size w' t v)
theorem eW.aqy {w:World}{g:Nat}{t:TypeId}{a b c d e f k l:Value}(h:eW w g t #[a,b,c,d,e,f,k,l])(x0 x1 x2 x3 x4 x5 x6 x7:Value):
 eW ((((((((w.setCell ⟨g,0,none⟩ x0).setCell ⟨g,1,none⟩ x1).setCell ⟨g,2,none⟩ x2).setCell ⟨g,3,none⟩ x3).setCell ⟨g,4,none⟩ x4).setCell ⟨g,5,none⟩ x5).setCell ⟨g,6,none⟩ x6).setCell ⟨g,7,none⟩ x7) g t #[x0,x1,x2,x3,x4,x5,x6,x7]:=by
 have hh:=(((((((h.apg 0 x0).apg 1 x1).apg 2 x2).apg 3 x3).apg 4 x4).apg 5 x5).apg 6 x6).apg 7 x7;simp only[ae,af,ag]at hh;exact hh
theorem kw.aqy {w w':World}{g rg:Nat}(F:kw rg w w')(hg:w.heap.size<=g)(x0 x1 x2 x3 x4 x5 x6 x7:Value):
 kw rg w ((((((((w'.setCell ⟨g,0,none⟩ x0).setCell ⟨g,1,none⟩ x1).setCell ⟨g,2,none⟩ x2).setCell ⟨g,3,none⟩ x3).setCell ⟨g,4,none⟩ x4).setCell ⟨g,5,none⟩ x5).setCell ⟨g,6,none⟩ x6).setCell ⟨g,7,none⟩ x7):=by
 have h1:∀ (W:World) (i:Nat) (v:Value),kw rg w W->kw rg w (W.setCell ⟨g,i,none⟩ v):=fun W i v F=>⟨F.os,F.tape,F.output,by have:=F.size;simp[aI];exact this,fun k hk hne=>(Below.heap_setCell W ⟨g,i,none⟩ v k (by show k≠g;omega)).trans (F.same k hk hne)⟩;exact h1 _ _ _ (h1 _ _ _ (h1 _ _ _ (h1 _ _ _ (h1 _ _ _ (h1 _ _ _ (h1 _ _ _ (h1 _ _ _ F)))))))
theorem Rv {w:World}{g n:Nat}{A:Option Addr}{xs:List Value}(h:eQ w w.heap.size 1 A n xs)(hne:0<n->∀ a,A=some a->a.block≠g)(x0 x1 x2 x3 x4 x5 x6 x7:Value):
 eQ ((((((((w.setCell ⟨g,0,none⟩ x0).setCell ⟨g,1,none⟩ x1).setCell ⟨g,2,none⟩ x2).setCell ⟨g,3,none⟩ x3).setCell ⟨g,4,none⟩ x4).setCell ⟨g,5,none⟩ x5).setCell ⟨g,6,none⟩ x6).setCell ⟨g,7,none⟩ x7) ((((((((w.setCell ⟨g,0,none⟩ x0).setCell ⟨g,1,none⟩ x1).setCell ⟨g,2,none⟩ x2).setCell ⟨g,3,none⟩ x3).setCell ⟨g,4,none⟩ x4).setCell ⟨g,5,none⟩ x5).setCell ⟨g,6,none⟩ x6).setCell ⟨g,7,none⟩ x7).heap.size 1 A n xs:=by
 have h1:∀ (W:World) (i:Nat) (v:Value),eQ W W.heap.size 1 A n xs->eQ (W.setCell ⟨g,i,none⟩ v) (W.setCell ⟨g,i,none⟩ v).heap.size 1 A n xs:=fun W i v h=>by
  have hsz:(W.setCell ⟨g,i,none⟩ v).heap.size=W.heap.size:=by simp[aI]
  rw[hsz];refine⟨h.1,fun hn=>?_⟩;obtain⟨a,ha,hb,hc⟩:=h.2 hn;exact⟨a,ha,hb,fun j u hu=>(aD (a:=a.add j) (Below.heap_setCell W ⟨g,i,none⟩ v _ (by show (a.add j).block≠g;rw[gi];exact hne hn a ha))).trans (hc j u hu)⟩
 exact h1 _ _ _ (h1 _ _ _ (h1 _ _ _ (h1 _ _ _ (h1 _ _ _ (h1 _ _ _ (h1 _ _ _ (h1 _ _ _ h)))))))
theorem un {w:World}{g i n:Nat}{v:Value}{A:Option Addr}{xs:List Value}(h:eQ w w.heap.size 1 A n xs)(hne:0<n->∀ a,A=some a->a.block≠g):eQ (w.setCell ⟨g,i,none⟩ v) (w.setCell ⟨g,i,none⟩ v).heap.size 1 A n xs:=by
 have hsz:(w.setCell ⟨g,i,none⟩ v).heap.size=w.heap.size:=by simp[aI]
 rw[hsz];refine⟨h.1,fun hn=>?_⟩;obtain⟨a,ha,hb,hc⟩:=h.2 hn;exact⟨a,ha,hb,fun j u hu=>(aD (a:=a.add j) (Below.heap_setCell w ⟨g,i,none⟩ v _ (by show (a.add j).block≠g;rw[gi];exact hne hn a ha))).trans (hc j u hu)⟩
structure xw (L rg:Nat) (w0 w:World) (b2 b3:Nat) (cs:Array Value) (A:Option Addr) (c:Nat) (bs:List Nat) (bad:Bool):Prop where
 rd:lm w L rg A c bs bad
 fr:kw rg w0 w
 res:eW w b2 303 #[.int .i64 0,.int .i64 0,.int .i64 0,.int .u32 0,.int .u32 0,.int .u32 0,.slice none 0 0,.int .i64 0]
 box:eW w b3 303 cs
 h2:w0.heap.size<=b2
 h3:w0.heap.size<=b3
 ne:b2≠b3
 hrg:rg<w0.heap.size
section
variable {L rg b2 b3 c c':Nat}{w0 w w':World}{cs:Array Value}{A A':Option Addr}{bs gJ:List Nat}{bad rq:Bool}
theorem xw.read (S:xw L rg w0 w b2 b3 cs A c bs bad)(R:lm w' L rg A' c' gJ rq)(F:kw rg w w'):xw L rg w0 w' b2 b3 cs A' c' gJ rq:=
 ⟨R,S.fr.trans F,S.res.fr1 F (by have:=S.h2;have:=S.hrg;omega),S.box.fr1 F (by have:=S.h3;have:=S.hrg;omega),S.h2,S.h3,S.ne,S.hrg⟩
theorem xw.below (S:xw L rg w0 w b2 b3 cs A c bs bad)(h:Below w.heap.size w w'):xw L rg w0 w' b2 b3 cs A c bs bad:=S.read (S.rd.below h) (kw.apa h)
theorem xw.set (S:xw L rg w0 w b2 b3 cs A c bs bad)(i:Nat)(v:Value):xw L rg w0 (w.setCell ⟨b3,i,none⟩ v) b2 b3 (cs.setIfInBounds i v) A c bs bad:=
 ⟨S.rd.set (by have:=S.h3;have:=S.hrg;omega) (by have:=S.h3;have:=S.hrg;have:=S.rd.far;omega),⟨S.fr.os,S.fr.tape,S.fr.output,by have:=S.fr.size;simp[aI];exact this,fun k hk hne=>(Below.heap_setCell w ⟨b3,i,none⟩ v k (by show k≠b3;have:=S.h3;omega)).trans (S.fr.same k hk hne)⟩,S.res.same (Below.heap_setCell w ⟨b3,i,none⟩ v b2 S.ne),S.box.apg i v,S.h2,S.h3,S.ne,S.hrg⟩
theorem xw.bad_ (S:xw L rg w0 w b2 b3 cs A c bs bad):xw L rg w0 (w.setCell ⟨rg,1,none⟩ (.bool true)) b2 b3 cs A c bs true:=
 S.read ⟨S.rd.box.apg 1 _,S.rd.cap,S.rd.rd.below (Below.setCell (Below.refl _ _) (p:=⟨rg,1,none⟩) S.rd.far _),S.rd.far,S.rd.b8⟩ (kw.set _ _ _ _)
theorem xw.fin (S:xw L rg w0 w b2 b3 cs A c bs bad)(x0 x1 x2 x3 x4 x5 x6 x7:Value):
 eW ((((((((w.setCell ⟨b2,0,none⟩ x0).setCell ⟨b2,1,none⟩ x1).setCell ⟨b2,2,none⟩ x2).setCell ⟨b2,3,none⟩ x3).setCell ⟨b2,4,none⟩ x4).setCell ⟨b2,5,none⟩ x5).setCell ⟨b2,6,none⟩ x6).setCell ⟨b2,7,none⟩ x7) b2 303 #[x0,x1,x2,x3,x4,x5,x6,x7]/\
 lm ((((((((w.setCell ⟨b2,0,none⟩ x0).setCell ⟨b2,1,none⟩ x1).setCell ⟨b2,2,none⟩ x2).setCell ⟨b2,3,none⟩ x3).setCell ⟨b2,4,none⟩ x4).setCell ⟨b2,5,none⟩ x5).setCell ⟨b2,6,none⟩ x6).setCell ⟨b2,7,none⟩ x7) L rg A c bs bad/\
 kw rg w0 ((((((((w.setCell ⟨b2,0,none⟩ x0).setCell ⟨b2,1,none⟩ x1).setCell ⟨b2,2,none⟩ x2).setCell ⟨b2,3,none⟩ x3).setCell ⟨b2,4,none⟩ x4).setCell ⟨b2,5,none⟩ x5).setCell ⟨b2,6,none⟩ x6).setCell ⟨b2,7,none⟩ x7):=by
 have h1:b2≠rg:=by have:=S.h2;have:=S.hrg;omega
 have h2:L<=b2:=by have:=S.h2;have:=S.hrg;have:=S.rd.far;omega
 exact⟨S.res.aqy _ _ _ _ _ _ _ _,(((((((S.rd.set h1 h2).set h1 h2).set h1 h2).set h1 h2).set h1 h2).set h1 h2).set h1 h2).set h1 h2,S.fr.aqy S.h2 _ _ _ _ _ _ _ _⟩
theorem xw.apl (S:xw L rg w0 w b2 b3 cs A c bs bad)(hs:eX w0)(hsp:0<L):eX w:=fun i hi=>
 (aD (a:=⟨0,i,none⟩) (S.fr.same 0 (by have:=S.hrg;have:=S.rd.far;omega) (by have:=S.rd.far;omega))).trans (hs i hi)
end
theorem abN {bs YY bs2 YZ uV:List Nat}{c1 k n s:Nat}{d1 d2 d3 d4:Bool}(D1:TH false (rdNum bs) c1 YY d1)(D2:TH d1 (VZ YY) k bs2 d2)(D3:TH d2 (rdNum bs2) n YZ d3)(D4:TH d3 (rdNum YZ) s uV d4):
 (d4=true->Cj bs=none)/\(d4=false->Cj bs=if Ch ⟨n,k%16,k/16,c1,s⟩ then some (⟨n,k%16,k/16,c1,s⟩,uV) else none):=by
 unfold Cj
 cases d1 with
 | true=>
   have h1:rdNum bs=none:=by
    cases hh:rdNum bs with
    | none=>rfl
    | some p=>have:=D1.2 rfl ⟨p,hh⟩;cases this
   rw[h1];refine⟨fun _=>rfl,fun e=>?_⟩;obtain⟨e3,_⟩:=D4.1 e;obtain⟨e2,_⟩:=D3.1 e3;obtain⟨e1,_⟩:=D2.1 e2;cases e1
 | false =>
   rw[(D1.1 rfl).2];simp only
   cases YY with
   | nil=>
     refine⟨fun _=>rfl,fun e=>?_⟩;obtain⟨e3,_⟩:=D4.1 e;obtain⟨e2,_⟩:=D3.1 e3;obtain⟨_,e1⟩:=D2.1 e2;cases e1
   | cons q t=>
     obtain rfl:d2=false:=D2.2 rfl ⟨_,rfl⟩;obtain⟨_,hq⟩:=D2.1 rfl;injection hq with hq;injection hq with h1 h2;subst h1 h2;simp only
     cases d3 with
     | true=>
       have h1:rdNum t=none:=by
        cases hh:rdNum t with
        | none=>rfl
        | some p=>have:=D3.2 rfl ⟨p,hh⟩;cases this
       rw[h1];refine⟨fun _=>rfl,fun e=>?_⟩;obtain⟨e3,_⟩:=D4.1 e;cases e3
     | false=>
       rw[(D3.1 rfl).2];simp only
       cases d4 with
       | true=>
         have h1:rdNum YZ=none:=by
          cases hh:rdNum YZ with
          | none=>rfl
          | some p=>have:=D4.2 rfl ⟨p,hh⟩;cases this
         rw[h1];exact⟨fun _=>rfl,fun e=>by cases e⟩
       | false=>
         rw[(D4.1 rfl).2];exact⟨fun e=>(by cases e),fun _=>rfl⟩
theorem Rt {bs uV:List Nat}{x:Hd}(h:Cj bs=some (x,uV)):jT bs=ER x uV:=by unfold jT;rw[h]
theorem Aq {bs:List Nat}(h:Cj bs=none):jT bs=none:=by unfold jT;rw[h]
theorem UX (x:Nat)(hx:x<256):bits .and .u8 (x:Int) 15=((x%16:Nat):Int):=by
 have h:=u8_and_nat x 15 hx (by omega);rw[show x &&& 15=x%16 from aQ x 4]at h;exact h
theorem GR {w:World}{L rg c:Nat}{A:Option Addr}{bs:List Nat}(R:lm w L rg A c bs false)(hn:bs.length<=9000000)(hs:eX w)(hsp:0<L):
 Calls Tryz.prog 198 #[.pointer (some ⟨rg,0,none⟩)] w (afR L rg bs w):=by
 have HR:=aa R;have hrg:=R.box.lt;have hLr:=R.far;clear R;go_enter Tryz.func198,Tryz.ntmps198;go_wp2_with fail;have b2:=eW.new w 303 #[.int .i64 0,.int .i64 0,.int .i64 0,.int .u32 0,.int .u32 0,.int .u32 0,.slice none 0 0,.int .i64 0];have hb0:=(Below.refl w.heap.size w).alloc (ai _) (.cells #[.int .i64 0,.int .i64 0,.int .i64 0,.int .u32 0,.int .u32 0,.int .u32 0,.slice none 0 0,.int .i64 0] 303);have Z7:=aa (ji (HR.o.below hb0) hn);have X_:(w.alloc (.cells #[.int .i64 0,.int .i64 0,.int .i64 0,.int .u32 0,.int .u32 0,.int .u32 0,.slice none 0 0,.int .i64 0] 303)).heap.size=w.heap.size+1:=by simp
 have j8:=aa hb0;have tM:=aa b2;clear hb0 b2 HR;generalize w.alloc (.cells #[.int .i64 0,.int .i64 0,.int .i64 0,.int .u32 0,.int .u32 0,.int .u32 0,.slice none 0 0,.int .i64 0] 303)=W0 at*;refine Z7.o.mono ?_;rintro e w1 ⟨c1,A1,k1,YY,d1,rfl,hc1,R1,F1,D1,e1,he1⟩;have ZG:=aa D1;have hl1:YY.length<=9000000:=by rw[he1,ah]at hn;omega
 have anr:w.heap.size+1<=w1.heap.size:=by rw[<-X_];exact F1.size
 have S1:xw L rg w (w1.alloc (.cells (qH ⟨0,0,0,c1,0⟩ (.slice none 0 0) 0) 303)) w.heap.size w1.heap.size (qH ⟨0,0,0,c1,0⟩ (.slice none 0 0) 0) A1 k1 YY d1:=
  ⟨R1.below ((Below.refl _ _).alloc (ai _) _),(kw.apa j8.o |>.trans F1).trans (kw.apa ((Below.refl _ _).alloc (ai _) _)),((tM.o.fr1 F1 (by omega)).alloc _),eW.new w1 _ _,ai _,by omega,by omega,hrg⟩
 have HS:=aa S1;clear S1 R1 F1 D1 Z7 j8 tM he1 e1;unfold qH at HS;go_upto_region 2 with fail;generalize w1.alloc (.cells #[.int .i64 ((0:Nat):Int),.int .i64 ((0:Nat):Int),.int .i64 ((0:Nat):Int),.int .u32 0,.int .u32 ((0:Nat):Int),.int .u32 (c1:Nat),.slice none 0 0,.int .i64 ((0:Nat):Int)] 303)=W1 at*;generalize w1.heap.size=b3 at*;have wC:=aa (ul HS.o.rd hl1);go_wp2_with fail;refine wC.o.mono ?_;rintro e w2 ⟨k,A2,k2,bs2,d2,rfl,hk8,R2,F2,D2,e2,he2⟩;have HD2:=aa D2;have nE:=aa (HS.o.read R2 F2);have hl2:bs2.length<=9000000:=by rw[he2,ah]at hl1;omega
 clear wC R2 F2 D2 HS he2 e2;have nM:=UX k hk8;have q1:=nE.o.box.cell 1;have q2:=nE.o.box.cell 2;have y1:=nE.o.box.frozen 1;have y2:=nE.o.box.frozen 2;have qI:=aa ((nE.o.set 1 (.int .i64 ((k%16:Nat):Int))).set 2 (.int .i64 ((k/16:Nat):Int)));clear nE;go_upto_region 4 with fail;have ek1:((k%16:Nat):Int)=(k:Int)%16:=by omega
 have ek2:((k/16:Nat):Int)=(k:Int)/16:=by omega
 have xu:=aa (show xw L rg w ((w2.setCell ⟨b3,1,none⟩ (.int .i64 ((k:Int)%16))).setCell ⟨b3,2,none⟩ (.int .i64 ((k:Int)/16))) w.heap.size b3 (qH ⟨0,k%16,k/16,c1,0⟩ (.slice none 0 0) 0) A2 k2 bs2 d2 from by
  have h:=qI.o;rw[ek1,ek2]at h;unfold qH;rw[show ((⟨0,k%16,k/16,c1,0⟩ :Hd).fmt:Int)=(k:Int)%16 from ek1,show ((⟨0,k%16,k/16,c1,0⟩ :Hd).spare:Int)=(k:Int)/16 from ek2];exact h)
 generalize (w2.setCell ⟨b3,1,none⟩ (.int .i64 ((k:Int)%16))).setCell ⟨b3,2,none⟩ (.int .i64 ((k:Int)/16))=W3 at*;have Qd:k%16<16:=aH _ (by omega);have acP:k/16<16:=by omega
 clear qI q1 q2 y1 y2 nM;have Ve:=aa (ji xu.o.rd hl2);go_wp2_with fail;refine Ve.o.mono ?_;rintro e w3 ⟨n,A3,k3,YZ,d3,rfl,hn3,R3,F3,D3,e3,he3⟩;have HD3:=aa D3;have nG:=aa (xu.o.read R3 F3);have Y8:YZ.length<=9000000:=by rw[he3,ah]at hl2;omega
 clear Ve R3 F3 D3 xu he3 e3;have Z8:=aa (ji nG.o.rd Y8);go_wp2_with fail;refine Z8.o.mono ?_;rintro e w4 ⟨s,A4,k4,uV,d4,rfl,Ze,R4,F4,D4,e4,he4⟩;have LF:=aa (abN ZG.o HD2.o HD3.o D4);have lM:=aa (nG.o.read R4 F4);have hl4:uV.length<=9000000:=by rw[he4,ah]at Y8;omega
 clear Z8 R4 F4 D4 nG he4 e4 ZG HD2 HD3;have q4:=lM.o.box.cell 4;have y4:=lM.o.box.frozen 4;unfold qH at q4;have mf:=aa (show xw L rg w (w4.setCell ⟨b3,4,none⟩ (.int .u32 (s:Nat))) w.heap.size b3 (qH ⟨0,k%16,k/16,c1,s⟩ (.slice none 0 0) 0) A4 k4 uV d4 from lM.o.set 4 (.int .u32 (s:Nat)));clear lM;go_upto_region 6 with fail;generalize w4.setCell ⟨b3,4,none⟩ (.int .u32 (s:Int))=W5 at*;clear q4 y4;generalize agQ:k%16=fm at*;generalize ahD:k/16=sp at*;clear agQ ahD ek1 ek2;by_cases tY:65535<n
 .have VC:(65535:Int)<(n:Int):=by omega
  have hdb:decide ((65535:Int)<(n:Int))=true:=by simp;omega
  have qX:=aa (show jT bs=none from Aq (by
   cases d4 with
   | true=>exact LF.o.1 rfl
   | false=>rw[LF.o.2 rfl,zU tY];rfl))
  have y1:=mf.o.rd.box.frozen 1;have q1:=mf.o.rd.box.cell 1;have mG:=aa (mf.o.bad_);clear mf;go_upto_region 8 with fail;generalize W5.setCell ⟨rg,1,none⟩ (.bool true)=W6 at*;clear y1 q1;have y1:=mG.o.box.frozen 0;have q1:=mG.o.box.cell 0;unfold qH at q1;have kq:=aa (show xw L rg w (W6.setCell ⟨b3,0,none⟩ (.int .i64 (n:Nat))) w.heap.size b3 (qH ⟨n,fm,sp,c1,s⟩ (.slice none 0 0) 0) A4 k4 uV true from mG.o.set 0 (.int .i64 (n:Nat)));clear mG;go_upto_region 9 with fail;generalize W6.setCell ⟨b3,0,none⟩ (.int .i64 (n:Int))=W7 at*;clear y1 q1;have q0:=kq.o.box.cell 0;have q1:=kq.o.box.cell 1;have q2:=kq.o.box.cell 2;have q3:=kq.o.box.cell 3;have q4:=kq.o.box.cell 4;unfold qH at q0 q1 q2 q3 q4;have pT:=aa (y5 ⟨n,fm,sp,0,s⟩ hn3 Qd acP (show (0:Nat)<4294967296 by omega) Ze (zU tY) W7 (kq.o.apl hs hsp));go_wp2_with fail;refine pT.o.mono ?_;rintro e w8 ⟨rfl,l9⟩;have gU:=aa ((kq.o.below l9).below ((Below.refl _ _).alloc (ai _) (.cells #[.int .u32 0,.int .u32 0,.int .u32 0] 248)));clear pT kq l9 q0 q1 q2 q3 q4;go_upto_region 10 with fail;generalize w8.alloc (.cells #[.int .u32 0,.int .u32 0,.int .u32 0] 248)=W8 at*;have y1:=gU.o.rd.box.frozen 1;have q1:=gU.o.rd.box.cell 1;have gu:=aa (gU.o.bad_);clear gU;go_upto_region 12 with fail;generalize W8.setCell ⟨rg,1,none⟩ (.bool true)=W9 at*;clear y1 q1;have q0:=gu.o.box.cell 0;have q1:=gu.o.box.cell 1;have q2:=gu.o.box.cell 2;have q3:=gu.o.box.cell 3;have q4:=gu.o.box.cell 4;have q5:=gu.o.box.cell 5;have q6:=gu.o.box.cell 6;have q7:=gu.o.box.cell 7;unfold qH at q0 q1 q2 q3 q4 q5 q6 q7;have z0:=gu.o.res.frozen 0;have z1:=gu.o.res.frozen 1;have z2:=gu.o.res.frozen 2;have z3:=gu.o.res.frozen 3;have z4:=gu.o.res.frozen 4;have z5:=gu.o.res.frozen 5;have z6:=gu.o.res.frozen 6;have z7:=gu.o.res.frozen 7;have d0:=gu.o.res.cell 0;have d1:=gu.o.res.cell 1;have d2:=gu.o.res.cell 2;have d3:=gu.o.res.cell 3;have d4:=gu.o.res.cell 4;have d5:=gu.o.res.cell 5;have d6:=gu.o.res.cell 6;have d7:=gu.o.res.cell 7;have r1:=gu.o.rd.box.cell 1;obtain⟨BF,RF,FF⟩:=gu.o.fin (.int .i64 n) (.int .i64 fm) (.int .i64 sp) (.int .u32 0) (.int .u32 s) (.int .u32 c1) (.slice none 0 0) (.int .i64 0);have kn:=aa BF;have LN:=aa RF;have LI:=aa FF;clear BF RF FF;go_wp2_with fail;generalize ((((((((W9.setCell ⟨w.heap.size,0,none⟩ (.int .i64 (n:Int))).setCell ⟨w.heap.size,1,none⟩ (.int .i64 (fm:Int))).setCell ⟨w.heap.size,2,none⟩ (.int .i64 (sp:Int))).setCell ⟨w.heap.size,3,none⟩ (.int .u32 0)).setCell ⟨w.heap.size,4,none⟩ (.int .u32 (s:Int))).setCell ⟨w.heap.size,5,none⟩ (.int .u32 (c1:Int))).setCell ⟨w.heap.size,6,none⟩ (.slice none 0 0)).setCell ⟨w.heap.size,7,none⟩ (.int .i64 0))=WF at*;clear q0 z0 d0 q1 z1 d1 q2 z2 d2 q3 z3 d3 q4 z4 d4 q5 z5 d5 q6 z6 d6 q7 z7 d7;have f0:=kn.o.cell 0;have f1:=kn.o.cell 1;have f2:=kn.o.cell 2;have f3:=kn.o.cell 3;have f4:=kn.o.cell 4;have f5:=kn.o.cell 5;have f6:=kn.o.cell 6;have f7:=kn.o.cell 7;refine bodyPost_ret (v:=Fc ⟨n,fm,sp,c1,s⟩ (.slice none 0 0) 0) (by simp[results,Tryz.results198,go_sem,Fc,qH,f0,f1,f2,f3,f4,f5,f6,f7]) rfl ?_;exact⟨_,_,_,_,true,rfl,⟨_,_,_,_,rfl⟩,LN.o,LI.o,fun _=>qX.o,fun h=>by cases h⟩
 .have VC :¬ (65535:Int)<(n:Int):=by omega
  have hdb:decide ((65535:Int)<(n:Int))=false:=by simp;omega
  go_upto_region 8 with fail;have y1:=mf.o.box.frozen 0;have q1:=mf.o.box.cell 0;unfold qH at q1;have kq:=aa (show xw L rg w (W5.setCell ⟨b3,0,none⟩ (.int .i64 (n:Nat))) w.heap.size b3 (qH ⟨n,fm,sp,c1,s⟩ (.slice none 0 0) 0) A4 k4 uV d4 from mf.o.set 0 (.int .i64 (n:Nat)));clear mf;go_upto_region 9 with fail;generalize W5.setCell ⟨b3,0,none⟩ (.int .i64 (n:Int))=W7 at*;clear y1 q1;by_cases hok:Ch ⟨n,fm,sp,c1,s⟩=true
  .skip
   obtain⟨kJ,pn⟩:=Lg hok hc1 Ze;have WI:=aa pn;have abR:(⟨n,fm,sp,0,s⟩ :Hd).Fit:=⟨kJ.size,kJ.fmt,kJ.spare,show (0:Nat)<4294967296 by omega,Ze⟩;have VK:(⟨n,fm,sp,0,s⟩ :Hd).may=true:=pn;have pT:=aa (y7 ⟨n,fm,sp,0,s⟩ abR VK W7 (kq.o.apl hs hsp));clear pn VK;have q0:=kq.o.box.cell 0;have q1:=kq.o.box.cell 1;have q2:=kq.o.box.cell 2;have q3:=kq.o.box.cell 3;have q4:=kq.o.box.cell 4;unfold qH at q0 q1 q2 q3 q4;go_wp2_with fail;refine pT.o.mono ?_;rintro e w8 ⟨rfl,l9⟩;rw[show (⟨n,fm,sp,0,s⟩ :Hd).packed= .agg #[.int .u32 (⟨n,fm,sp,0,s⟩ :Hd).w0,.int .u32 ((0:Nat):Int),.int .u32 (s:Nat)] from rfl];generalize (⟨n,fm,sp,0,s⟩ :Hd).w0=w0v at*;have gU:=aa ((kq.o.below l9).below ((Below.refl _ _).alloc (ai _) (.cells #[.int .u32 (w0v:Nat),.int .u32 0,.int .u32 (s:Nat)] 248)));clear pT kq l9 q0 q1 q2 q3 q4;go_upto_region 10 with fail;generalize w8.alloc (.cells #[.int .u32 (w0v:Int),.int .u32 0,.int .u32 (s:Int)] 248)=W8 at*;have r1:=gU.o.rd.box.cell 1
   cases d4 with
   | true=>
     have qX:=aa (show jT bs=none from Aq (LF.o.1 rfl));clear LF r1;have q0:=gU.o.box.cell 0;have q1:=gU.o.box.cell 1;have q2:=gU.o.box.cell 2;have q3:=gU.o.box.cell 3;have q4:=gU.o.box.cell 4;have q5:=gU.o.box.cell 5;have q6:=gU.o.box.cell 6;have q7:=gU.o.box.cell 7;unfold qH at q0 q1 q2 q3 q4 q5 q6 q7;have z0:=gU.o.res.frozen 0;have z1:=gU.o.res.frozen 1;have z2:=gU.o.res.frozen 2;have z3:=gU.o.res.frozen 3;have z4:=gU.o.res.frozen 4;have z5:=gU.o.res.frozen 5;have z6:=gU.o.res.frozen 6;have z7:=gU.o.res.frozen 7;have d0:=gU.o.res.cell 0;have d1:=gU.o.res.cell 1;have d2:=gU.o.res.cell 2;have d3:=gU.o.res.cell 3;have d4:=gU.o.res.cell 4;have d5:=gU.o.res.cell 5;have d6:=gU.o.res.cell 6;have d7:=gU.o.res.cell 7;have r1:=gU.o.rd.box.cell 1;obtain⟨BF,RF,FF⟩:=gU.o.fin (.int .i64 n) (.int .i64 fm) (.int .i64 sp) (.int .u32 0) (.int .u32 s) (.int .u32 c1) (.slice none 0 0) (.int .i64 0);have kn:=aa BF;have LN:=aa RF;have LI:=aa FF;clear BF RF FF;go_wp2_with fail;generalize ((((((((W8.setCell ⟨w.heap.size,0,none⟩ (.int .i64 (n:Int))).setCell ⟨w.heap.size,1,none⟩ (.int .i64 (fm:Int))).setCell ⟨w.heap.size,2,none⟩ (.int .i64 (sp:Int))).setCell ⟨w.heap.size,3,none⟩ (.int .u32 0)).setCell ⟨w.heap.size,4,none⟩ (.int .u32 (s:Int))).setCell ⟨w.heap.size,5,none⟩ (.int .u32 (c1:Int))).setCell ⟨w.heap.size,6,none⟩ (.slice none 0 0)).setCell ⟨w.heap.size,7,none⟩ (.int .i64 0))=WF at*;clear q0 z0 d0 q1 z1 d1 q2 z2 d2 q3 z3 d3 q4 z4 d4 q5 z5 d5 q6 z6 d6 q7 z7 d7;have f0:=kn.o.cell 0;have f1:=kn.o.cell 1;have f2:=kn.o.cell 2;have f3:=kn.o.cell 3;have f4:=kn.o.cell 4;have f5:=kn.o.cell 5;have f6:=kn.o.cell 6;have f7:=kn.o.cell 7;refine bodyPost_ret (v:=Fc ⟨n,fm,sp,c1,s⟩ (.slice none 0 0) 0) (by simp[results,Tryz.results198,go_sem,Fc,qH,f0,f1,f2,f3,f4,f5,f6,f7]) rfl ?_;exact⟨_,_,_,_,true,rfl,⟨_,_,_,_,rfl⟩,LN.o,LI.o,fun _=>qX.o,fun h=>by cases h⟩
   | false =>
     have uN:=aa (show jT bs=ER ⟨n,fm,sp,c1,s⟩ uV from Rt (by rw[LF.o.2 rfl,if_pos hok]));clear LF;go_upto_region 14 with fail;clear r1;have q0:=gU.o.box.cell 0;have q1:=gU.o.box.cell 1;have q2:=gU.o.box.cell 2;have q3:=gU.o.box.cell 3;have q4:=gU.o.box.cell 4;have q5:=gU.o.box.cell 5;have q6:=gU.o.box.cell 6;have q7:=gU.o.box.cell 7;unfold qH at q0 q1 q2 q3 q4 q5 q6 q7;by_cases h2:fm=2
     .have qY:((fm:Int) == 2)=true:=(by simp;omega);have anq:sp<4:=kJ.spare;have wA:n<16777216:=kJ.size;have hm0:sp<=4*n:=(by have:=WI.o;unfold Hd.may at this;simp at this;omega);have ahn:n<=65535:=(by have:=WI.o;unfold Hd.may at this;simp at this;omega);have ZK:=aa h2;have wC:=aa (rP gU.o.rd hl4 (4*n-sp) (by omega));clear h2;go_wp2_with fail;rw[show (4*(n:Int)-(sp:Int))=((4*n-sp:Nat):Int) by omega];refine wC.o.mono ?_;rintro e w9 ⟨F9,(⟨hle,rfl,R9⟩|⟨hlt,rfl,R9⟩)⟩
      .have lK:=aa (gU.o.read R9 F9);have agA:b3<w9.heap.size:=lK.o.box.lt;have agy:w.heap.size<w9.heap.size:=lK.o.res.lt;have hLw:L<=w9.heap.size:=(by have:=lK.o.rd.box.lt;have:=lK.o.rd.far;omega);have Ks:=aa (oL (w:=w9) (iH A4 k4 0) (4*n-sp) k4 L (uV.take (4*n-sp)) (by omega) ((qB (k:=4*n-sp) (c:=k4) gU.o.rd.rd (by omega)).below (F9.below gU.o.rd.far (by have:=gU.o.rd.box.lt;have:=gU.o.rd.far;omega))) hLw (fun x hx=>gU.o.rd.b8 x (aC hx)));have WY:=aa (show jT bs=some (⟨⟨n,fm,sp,c1,s⟩,mO (uV.take (4*n-sp))⟩,uV.drop (4*n-sp)) from by
        rw[uN.o];unfold ER;rw[if_pos ZK.o,if_pos hle])
       unfold Ej at Ks;generalize mO (uV.take (4*n-sp))=fs at*;clear R9 F9 gU wC q0 q1 q2 q3 q4 q5 q6 q7;go_wp2_with fail;refine Ks.o.mono ?_;rintro e w10 ⟨g,rfl,hrow,hg,pd⟩;have kE:=aa (lK.o.below pd);have II:=aa (show eQ w10 w10.heap.size 1 (some ⟨g,0,none⟩) fs.length (eN fs) from by
        have h:=hrow.reads hrow.lt;rw[eY]at h;exact h)
       have hg3:g≠b3:=(by omega);have hg2:g≠w.heap.size:=(by omega);have hgw:w.heap.size<=g:=(by omega);clear Ks lK hrow hg pd;have q6:=kE.o.box.cell 6;have y6:=kE.o.box.frozen 6;unfold qH at q6;have gz:=aa (show xw L rg w (w10.setCell ⟨b3,6,none⟩ (.slice (some ⟨g,0,none⟩) fs.length fs.length)) w.heap.size b3 (qH ⟨n,fm,sp,c1,s⟩ (.slice (some ⟨g,0,none⟩) fs.length fs.length) 0) (iH A4 k4 (4*n-sp)) (k4-(4*n-sp)) (uV.drop (4*n-sp)) false from kE.o.set 6 (.slice (some ⟨g,0,none⟩) fs.length fs.length));have W_:=aa (un (g:=b3) (i:=6) (v:=.slice (some ⟨g,0,none⟩) fs.length fs.length) II.o (fun _ a ha=>by injection ha with ha;rw[<-ha];exact hg3));clear kE II;go_upto_region 17 with fail;generalize w10.setCell ⟨b3,6,none⟩ (.slice (some ⟨g,0,none⟩) fs.length fs.length)=W11 at*;clear q6 y6;have ri:=aa (Rv (g:=w.heap.size) W_.o (fun _ a ha=>by injection ha with ha;rw[<-ha];exact hg2) (.int .i64 n) (.int .i64 fm) (.int .i64 sp) (.int .u32 0) (.int .u32 s) (.int .u32 c1) (.slice (some ⟨g,0,none⟩) fs.length fs.length) (.int .i64 0));clear W_;have q0:=gz.o.box.cell 0;have q1:=gz.o.box.cell 1;have q2:=gz.o.box.cell 2;have q3:=gz.o.box.cell 3;have q4:=gz.o.box.cell 4;have q5:=gz.o.box.cell 5;have q6:=gz.o.box.cell 6;have q7:=gz.o.box.cell 7;unfold qH at q0 q1 q2 q3 q4 q5 q6 q7;have z0:=gz.o.res.frozen 0;have z1:=gz.o.res.frozen 1;have z2:=gz.o.res.frozen 2;have z3:=gz.o.res.frozen 3;have z4:=gz.o.res.frozen 4;have z5:=gz.o.res.frozen 5;have z6:=gz.o.res.frozen 6;have z7:=gz.o.res.frozen 7;have d0:=gz.o.res.cell 0;have d1:=gz.o.res.cell 1;have d2:=gz.o.res.cell 2;have d3:=gz.o.res.cell 3;have d4:=gz.o.res.cell 4;have d5:=gz.o.res.cell 5;have d6:=gz.o.res.cell 6;have d7:=gz.o.res.cell 7;have r1:=gz.o.rd.box.cell 1;obtain⟨BF,RF,FF⟩:=gz.o.fin (.int .i64 n) (.int .i64 fm) (.int .i64 sp) (.int .u32 0) (.int .u32 s) (.int .u32 c1) (.slice (some ⟨g,0,none⟩) fs.length fs.length) (.int .i64 0);have kn:=aa BF;have LN:=aa RF;have LI:=aa FF;clear BF RF FF;go_wp2_with fail;generalize ((((((((W11.setCell ⟨w.heap.size,0,none⟩ (.int .i64 (n:Int))).setCell ⟨w.heap.size,1,none⟩ (.int .i64 (fm:Int))).setCell ⟨w.heap.size,2,none⟩ (.int .i64 (sp:Int))).setCell ⟨w.heap.size,3,none⟩ (.int .u32 0)).setCell ⟨w.heap.size,4,none⟩ (.int .u32 (s:Int))).setCell ⟨w.heap.size,5,none⟩ (.int .u32 (c1:Int))).setCell ⟨w.heap.size,6,none⟩ (.slice (some ⟨g,0,none⟩) fs.length fs.length)).setCell ⟨w.heap.size,7,none⟩ (.int .i64 0))=WF at*;clear q0 z0 d0 q1 z1 d1 q2 z2 d2 q3 z3 d3 q4 z4 d4 q5 z5 d5 q6 z6 d6 q7 z7 d7;have f0:=kn.o.cell 0;have f1:=kn.o.cell 1;have f2:=kn.o.cell 2;have f3:=kn.o.cell 3;have f4:=kn.o.cell 4;have f5:=kn.o.cell 5;have f6:=kn.o.cell 6;have f7:=kn.o.cell 7;refine bodyPost_ret (v:=Fc ⟨n,fm,sp,c1,s⟩ (.slice (some ⟨g,0,none⟩) fs.length fs.length) 0) (by simp[results,Tryz.results198,go_sem,Fc,qH,f0,f1,f2,f3,f4,f5,f6,f7]) rfl ?_;exact⟨_,_,_,_,false,rfl,⟨_,_,_,_,rfl⟩,LN.o,LI.o,fun h=>(by cases h),fun _=>⟨_,WY.o,some ⟨g,0,none⟩,fs.length,rfl,ri.o,fun a ha=>by injection ha with ha;rw[<-ha];exact hgw⟩⟩
      .have lK:=aa (gU.o.read R9 F9);have agA:b3<w9.heap.size:=lK.o.box.lt;have agy:w.heap.size<w9.heap.size:=lK.o.res.lt;have hLw:L<=w9.heap.size:=(by have:=lK.o.rd.box.lt;have:=lK.o.rd.far;omega);have Ks:=aa (oL (w:=w9) none 0 0 L [] (by omega) eQ.none_ hLw (fun x hx=>by cases hx));have qX:=aa (show jT bs=none from by
        rw[uN.o];unfold ER;rw[if_pos ZK.o,if_neg (by show ¬ 4*n-sp<=uV.length;omega)])
       unfold Ej at Ks;generalize mO []=fs at*;clear R9 F9 gU wC q0 q1 q2 q3 q4 q5 q6 q7;go_wp2_with fail;refine Ks.o.mono ?_;rintro e w10 ⟨g,rfl,hrow,hg,pd⟩;have kE:=aa (lK.o.below pd);have II:=aa (show eQ w10 w10.heap.size 1 (some ⟨g,0,none⟩) fs.length (eN fs) from by
        have h:=hrow.reads hrow.lt;rw[eY]at h;exact h)
       have hg3:g≠b3:=(by omega);have hg2:g≠w.heap.size:=(by omega);have hgw:w.heap.size<=g:=(by omega);clear Ks lK hrow hg pd;have q6:=kE.o.box.cell 6;have y6:=kE.o.box.frozen 6;unfold qH at q6;have gz:=aa (show xw L rg w (w10.setCell ⟨b3,6,none⟩ (.slice (some ⟨g,0,none⟩) fs.length fs.length)) w.heap.size b3 (qH ⟨n,fm,sp,c1,s⟩ (.slice (some ⟨g,0,none⟩) fs.length fs.length) 0) A4 k4 uV true from kE.o.set 6 (.slice (some ⟨g,0,none⟩) fs.length fs.length));have W_:=aa (un (g:=b3) (i:=6) (v:=.slice (some ⟨g,0,none⟩) fs.length fs.length) II.o (fun _ a ha=>by injection ha with ha;rw[<-ha];exact hg3));clear kE II;go_upto_region 17 with fail;generalize w10.setCell ⟨b3,6,none⟩ (.slice (some ⟨g,0,none⟩) fs.length fs.length)=W11 at*;clear q6 y6;clear W_;have q0:=gz.o.box.cell 0;have q1:=gz.o.box.cell 1;have q2:=gz.o.box.cell 2;have q3:=gz.o.box.cell 3;have q4:=gz.o.box.cell 4;have q5:=gz.o.box.cell 5;have q6:=gz.o.box.cell 6;have q7:=gz.o.box.cell 7;unfold qH at q0 q1 q2 q3 q4 q5 q6 q7;have z0:=gz.o.res.frozen 0;have z1:=gz.o.res.frozen 1;have z2:=gz.o.res.frozen 2;have z3:=gz.o.res.frozen 3;have z4:=gz.o.res.frozen 4;have z5:=gz.o.res.frozen 5;have z6:=gz.o.res.frozen 6;have z7:=gz.o.res.frozen 7;have d0:=gz.o.res.cell 0;have d1:=gz.o.res.cell 1;have d2:=gz.o.res.cell 2;have d3:=gz.o.res.cell 3;have d4:=gz.o.res.cell 4;have d5:=gz.o.res.cell 5;have d6:=gz.o.res.cell 6;have d7:=gz.o.res.cell 7;have r1:=gz.o.rd.box.cell 1;obtain⟨BF,RF,FF⟩:=gz.o.fin (.int .i64 n) (.int .i64 fm) (.int .i64 sp) (.int .u32 0) (.int .u32 s) (.int .u32 c1) (.slice (some ⟨g,0,none⟩) fs.length fs.length) (.int .i64 0);have kn:=aa BF;have LN:=aa RF;have LI:=aa FF;clear BF RF FF;go_wp2_with fail;generalize ((((((((W11.setCell ⟨w.heap.size,0,none⟩ (.int .i64 (n:Int))).setCell ⟨w.heap.size,1,none⟩ (.int .i64 (fm:Int))).setCell ⟨w.heap.size,2,none⟩ (.int .i64 (sp:Int))).setCell ⟨w.heap.size,3,none⟩ (.int .u32 0)).setCell ⟨w.heap.size,4,none⟩ (.int .u32 (s:Int))).setCell ⟨w.heap.size,5,none⟩ (.int .u32 (c1:Int))).setCell ⟨w.heap.size,6,none⟩ (.slice (some ⟨g,0,none⟩) fs.length fs.length)).setCell ⟨w.heap.size,7,none⟩ (.int .i64 0))=WF at*;clear q0 z0 d0 q1 z1 d1 q2 z2 d2 q3 z3 d3 q4 z4 d4 q5 z5 d5 q6 z6 d6 q7 z7 d7;have f0:=kn.o.cell 0;have f1:=kn.o.cell 1;have f2:=kn.o.cell 2;have f3:=kn.o.cell 3;have f4:=kn.o.cell 4;have f5:=kn.o.cell 5;have f6:=kn.o.cell 6;have f7:=kn.o.cell 7;refine bodyPost_ret (v:=Fc ⟨n,fm,sp,c1,s⟩ (.slice (some ⟨g,0,none⟩) fs.length fs.length) 0) (by simp[results,Tryz.results198,go_sem,Fc,qH,f0,f1,f2,f3,f4,f5,f6,f7]) rfl ?_;exact⟨_,_,_,_,true,rfl,⟨_,_,_,_,rfl⟩,LN.o,LI.o,fun _=>qX.o,fun h=>by cases h⟩
     .have qY:((fm:Int) == 2)=false:=(by simp;omega);have ZK:=aa h2;have ahn:n<=65535:=(by have:=WI.o;unfold Hd.may at this;simp at this;omega);have agz:b3<W8.heap.size:=gU.o.box.lt;have agx:w.heap.size<W8.heap.size:=gU.o.res.lt;clear h2;go_wp2_with fail;clear q0 q1 q2 q3 q4 q5 q6 q7;obtain⟨i0,iF,hz0,hz1,hz2⟩:=info_parts jR
      go_loopw [80] (fun i wr=>∃ (k':Nat) (fs:List Nat) (vf:Value) (A':Option Addr) (c':Nat) (gJ:List Nat),i= .int .i64 k'/\k'<=n/\xw L rg w wr w.heap.size b3 (qH ⟨n,fm,sp,c1,s⟩ vf 0) A' c' gJ false/\wr.ownsRow W8.heap.size 32 1 vf k' (eN fs)/\tI k' uV=some (fs,gJ)/\W8.heap.size<=wr.heap.size) (fun i _=>n-(intOf i).toNat)
      case atStart=>exact⟨0,[],.slice none 0 0,A4,k4,uV,rfl,Nat.zero_le _,gU.o,⟨rfl,.inl ⟨rfl,rfl⟩⟩,rfl,ai _⟩
      case round=>
       clear gU;obtain⟨k',fs,vf,A',c',gJ,rfl,p_,S,O,K,hW8⟩:=hrel;have HS:=aa S;have HO:=aa O;have HK:=aa K;have uD:=(vU _ _ _ _ K).1;have hbl:gJ.length<=9000000:=(by have:=(vU _ _ _ _ K).2.1;omega);clear S O K;by_cases hkn:k'<n
       .have hd:decide ((k':Int)<(n:Int))=true:=(by simp;omega);go_upto_region 20 with fail;refine iB 7 (fun w'=>w'.cell? ⟨b3,6,none⟩=some vf/\True) (by kernel_rfl) ?_;have jv:Below wr.heap.size wr wr.drew:=⟨rfl,rfl,rfl,ai _,fun _ _=>rfl⟩;have nG:=aa (HS.o.below jv);have Ec:=aa (fE HO.o (fun q hq=>jv.block q (HO.o.lt q hq).2));have Vz:W8.heap.size<=wr.drew.heap.size:=hW8;clear jv HS HO hW8;generalize wr.drew=wq at*;have hS:wq.cell? ⟨b3,6,none⟩=some vf/\True:=⟨nG.o.box.cell 6,trivial⟩;refine eT 0 (v:=(.pointer (some ⟨b3,6,none⟩))) rfl (by kernel_rfl) (fun _ _ _ h=>h) hS (by rfl) (fun w' hw'=>by obtain⟨h0,h1⟩:=hw';go_simp) ?_;try simp only[aw,ae,af,ag]
        refine eT 1 (v:=vf) rfl (by kernel_rfl) (fun _ _ _ h=>h) hS (by rfl) (fun w' hw'=>by obtain⟨h0,h1⟩:=hw';go_simp) ?_;try simp only[aw,ae,af,ag]
        refine eT 2 (v:=(.pointer (some ⟨rg,0,none⟩))) rfl (by kernel_rfl) (fun _ _ _ h=>h) hS (by rfl) (fun w' hw'=>by obtain⟨h0,h1⟩:=hw';go_simp) ?_;try simp only[aw,ae,af,ag]
        refine fh 3 (by kernel_rfl) rfl rfl (fun K hK=>?_);go_simp;refine (ji nG.o.rd hbl).mono ?_;rintro e w6 ⟨n6,A6,c6,tA,Pt,rfl,hn6,R6,F6,D6,-⟩;have lM:=aa (nG.o.read R6 F6);have ww:=aa (fE Ec.o (fun q hq=>F6.same q (Ec.o.lt q hq).2 (by have:=(Ec.o.lt q hq).1;omega)));have hW6:W8.heap.size<=w6.heap.size:=aP Vz F6.size;have LG:=aa D6;clear R6 F6 D6 nG Ec Vz;have hS6:w6.cell? ⟨b3,6,none⟩=some vf/\True:=⟨lM.o.box.cell 6,trivial⟩;refine hK _ _ (fun _=>hS6) ?_;clear hK K;try simp only[aw,ae,af,ag]
        refine fh 4 (by kernel_rfl) rfl rfl (fun K hK=>?_);go_simp;have mf:=aa (lM.o.below ((Below.refl _ _).alloc (ai _) (.cells #[.int .u32 (n6:Nat)] 32)));have Oh:=aa (fE (w':=w6.alloc (.cells #[.int .u32 (n6:Nat)] 32)) ww.o (fun q hq=>((Below.refl w6.heap.size w6).alloc (ai _) (.cells #[.int .u32 (n6:Nat)] 32)).block q (ww.o.lt q hq).2));have hS7:(w6.alloc (.cells #[.int .u32 (n6:Nat)] 32)).cell? ⟨b3,6,none⟩=some vf/\True:=⟨mf.o.box.cell 6,trivial⟩;refine hK _ _ (fun _=>hS7) ?_;clear hK K;try simp only[aw,ae,af,ag]
        refine fh 5 (by kernel_rfl) rfl rfl (fun K hK=>?_);refine fS _ (.tmp 83) (.tmp 86) _ rfl W8.heap.size 32 i0 _ 1 4 Tryz.underlying84 iF hz0 hz1 hz2 rfl (by omega) vf k' (eN fs) rfl Oh.o (w6.heap.size+1) (some ⟨w6.heap.size,0,none⟩) 1 1 (eN [n6]) rfl ⟨rfl,fun _=>⟨_,rfl,by simp,cell_one_new _ _ _⟩⟩ (fU _) (by simp only[maxLen];omega) (by omega) (by simp;omega) ?_;intro v8 U0 ke Ud tj;obtain⟨g8,c8,rfl,-,-,amB⟩:=Row.apk ke (by omega);have po:∀ q,q<W8.heap.size->U0.heap[q]? = (w6.alloc (.cells #[.int .u32 (n6:Nat)] 32)).heap[q]? :=fun q hq=>Ud.block q (by simp;omega) (fun e=>by have:=(Oh.o.lt q (by first|exact e|exact e.symm)).1;omega)
        have mG:=aa (show xw L rg w U0 w.heap.size b3 (qH ⟨n,fm,sp,c1,s⟩ vf 0) A6 c6 tA Pt from
         ⟨⟨mf.o.rd.box.same (po rg (by have:=mf.o.hrg;omega)),mf.o.rd.cap,mf.o.rd.rd.keep (fun p hp=>aD (po p.block (by have:=mf.o.rd.far;have:=mf.o.hrg;omega))),mf.o.rd.far,mf.o.rd.b8⟩,⟨Ud.os.trans mf.o.fr.os,Ud.tape.trans mf.o.fr.tape,Ud.output.trans mf.o.fr.output,aP mf.o.fr.size Ud.size,fun q hq hne=>(po q (by omega)).trans (mf.o.fr.same q hq hne)⟩,mf.o.res.same (po _ agx),mf.o.box.same (po _ agz),mf.o.h2,mf.o.h3,mf.o.ne,mf.o.hrg⟩)
        have IG:=aa ke;have abi:W8.heap.size<=U0.heap.size:=aP (by simp;omega) Ud.size;clear ke Ud tj po lM ww mf Oh;have hS8:U0.cell? ⟨b3,6,none⟩=some vf/\True:=⟨mG.o.box.cell 6,trivial⟩;have tD:=hS8.1;have tE:=mG.o.box.frozen 6;refine hK _ _ (fun _=>hS8) ?_;clear hK K;try simp only[aw,ae,af,ag]
        refine fh 6 (by kernel_rfl) rfl rfl (fun K hK=>?_);go_simp;refine hK _ _ (fun _=>hS8) ?_;clear hK K;try simp only[aw,ae,af,ag]
        refine fh 7 (by kernel_rfl) rfl rfl (fun K hK=>?_);go_simp;refine hK _ _ (fun h=>absurd h (by decide)) ?_;clear hK K;try simp only[aw,ae,af,ag]
        refine g_ (by kernel_rfl) ?_ _;simp only[Calm,Exit.then];have kq:=aa (show xw L rg w (U0.setCell ⟨b3,6,none⟩ (.slice (some ⟨g8,0,none⟩) (k'+1) c8)) w.heap.size b3 (qH ⟨n,fm,sp,c1,s⟩ (.slice (some ⟨g8,0,none⟩) (k'+1) c8) 0) A6 c6 tA Pt from mG.o.set 6 (.slice (some ⟨g8,0,none⟩) (k'+1) c8));have BL:=aa (fE (w':=U0.setCell ⟨b3,6,none⟩ (.slice (some ⟨g8,0,none⟩) (k'+1) c8)) IG.o (fun q hq=>Below.heap_setCell U0 ⟨b3,6,none⟩ (.slice (some ⟨g8,0,none⟩) (k'+1) c8) q (by show q≠b3;have:=(IG.o.lt q hq).1;omega)));have hW9:W8.heap.size<=(U0.setCell ⟨b3,6,none⟩ (.slice (some ⟨g8,0,none⟩) (k'+1) c8)).heap.size:=(by simp[aI];exact abi);clear mG IG abi hS hS6 hS7 hS8 tD tE;generalize U0.setCell ⟨b3,6,none⟩ (.slice (some ⟨g8,0,none⟩) (k'+1) c8)=W9 at*;have r1:=kq.o.rd.box.cell 1
        cases Pt with
        | true=>
          have qX:=aa (show jT bs=none from by
           rw[uN.o];unfold ER;rw[if_neg ZK.o];have h1:rdNum gJ=none:=by
            cases hh:rdNum gJ with
            | none=>rfl
            | some q=>have:=LG.o.2 rfl ⟨q,hh⟩;cases this
           have h2:=rQ _ _ _ _ HK.o;rw[h1]at h2;rw[show tI n uV=none from Al n (k'+1) uV h2 (by omega)])
          clear LG uN BL HK r1;have q0:=kq.o.box.cell 0;have q1:=kq.o.box.cell 1;have q2:=kq.o.box.cell 2;have q3:=kq.o.box.cell 3;have q4:=kq.o.box.cell 4;have q5:=kq.o.box.cell 5;have q6:=kq.o.box.cell 6;have q7:=kq.o.box.cell 7;unfold qH at q0 q1 q2 q3 q4 q5 q6 q7;have z0:=kq.o.res.frozen 0;have z1:=kq.o.res.frozen 1;have z2:=kq.o.res.frozen 2;have z3:=kq.o.res.frozen 3;have z4:=kq.o.res.frozen 4;have z5:=kq.o.res.frozen 5;have z6:=kq.o.res.frozen 6;have z7:=kq.o.res.frozen 7;have d0:=kq.o.res.cell 0;have d1:=kq.o.res.cell 1;have d2:=kq.o.res.cell 2;have d3:=kq.o.res.cell 3;have d4:=kq.o.res.cell 4;have d5:=kq.o.res.cell 5;have d6:=kq.o.res.cell 6;have d7:=kq.o.res.cell 7;have r1:=kq.o.rd.box.cell 1;obtain⟨BF,RF,FF⟩:=kq.o.fin (.int .i64 n) (.int .i64 fm) (.int .i64 sp) (.int .u32 0) (.int .u32 s) (.int .u32 c1) (.slice (some ⟨g8,0,none⟩) (k'+1) c8) (.int .i64 0);have kn:=aa BF;have LN:=aa RF;have LI:=aa FF;clear BF RF FF;go_wp2_with fail;generalize ((((((((W9.setCell ⟨w.heap.size,0,none⟩ (.int .i64 (n:Int))).setCell ⟨w.heap.size,1,none⟩ (.int .i64 (fm:Int))).setCell ⟨w.heap.size,2,none⟩ (.int .i64 (sp:Int))).setCell ⟨w.heap.size,3,none⟩ (.int .u32 0)).setCell ⟨w.heap.size,4,none⟩ (.int .u32 (s:Int))).setCell ⟨w.heap.size,5,none⟩ (.int .u32 (c1:Int))).setCell ⟨w.heap.size,6,none⟩ (.slice (some ⟨g8,0,none⟩) (k'+1) c8)).setCell ⟨w.heap.size,7,none⟩ (.int .i64 0))=WF at*;clear q0 z0 d0 q1 z1 d1 q2 z2 d2 q3 z3 d3 q4 z4 d4 q5 z5 d5 q6 z6 d6 q7 z7 d7;have f0:=kn.o.cell 0;have f1:=kn.o.cell 1;have f2:=kn.o.cell 2;have f3:=kn.o.cell 3;have f4:=kn.o.cell 4;have f5:=kn.o.cell 5;have f6:=kn.o.cell 6;have f7:=kn.o.cell 7;refine bodyPost_ret (v:=Fc ⟨n,fm,sp,c1,s⟩ (.slice (some ⟨g8,0,none⟩) (k'+1) c8) 0) (by simp[results,Tryz.results198,go_sem,Fc,qH,f0,f1,f2,f3,f4,f5,f6,f7]) rfl ?_;exact⟨_,_,_,_,true,rfl,⟨_,_,_,_,rfl⟩,LN.o,LI.o,fun _=>qX.o,fun h=>by cases h⟩
        | false=>
          have tq:=(LG.o.1 rfl).2;have h2:=rQ _ _ _ _ HK.o;rw[tq]at h2;have HK9:=aa h2;have e9:eN fs++eN [n6]=eN (fs++[n6]):=(by unfold eN;rw[bz]);have ho9:=BL.o;rw[e9]at ho9;have O5:=aa ho9;clear tq h2 LG HK BL e9 ho9;go_wp2_with fail;go_roundw
          case rel=>exact⟨k'+1,fs++[n6],_,A6,c6,tA,by go_num,by omega,kq.o,O5.o,HK9.o,hW9⟩
          case measure=>simp[intOf];omega
       .obtain rfl:n=k':=(by omega);have hd:decide ((n:Int)<(n:Int))=false:=(by simp);obtain⟨AF,cF,rfl,hrF⟩:=fy HO.o;have ahp:0<n->∀ a,AF=some a->a.block≠w.heap.size:=fun _ a ha e=>by have:=(HO.o.lt a.block (by rw[ha];rfl)).1;omega
        have WY:=aa (show jT bs=some (⟨⟨n,fm,sp,c1,s⟩,fs⟩,gJ) from by
         rw[uN.o];unfold ER;rw[if_neg ZK.o];rw[show tI (⟨n,fm,sp,c1,s⟩ :Hd).size uV=some (fs,gJ) from HK.o])
        have ri:=aa (Rv (g:=w.heap.size) hrF ahp (.int .i64 n) (.int .i64 fm) (.int .i64 sp) (.int .u32 0) (.int .u32 s) (.int .u32 c1) (.slice AF n cF) (.int .i64 0));have OW:=aa uD;have IE:=aa (show ∀ a,AF=some a->w.heap.size<=a.block from fun a ha=>by have:=(HO.o.lt a.block (by rw[ha];rfl)).1;omega);clear hrF uN HK HO uD p_ hkn;have q0:=HS.o.box.cell 0;have q1:=HS.o.box.cell 1;have q2:=HS.o.box.cell 2;have q3:=HS.o.box.cell 3;have q4:=HS.o.box.cell 4;have q5:=HS.o.box.cell 5;have q6:=HS.o.box.cell 6;have q7:=HS.o.box.cell 7;unfold qH at q0 q1 q2 q3 q4 q5 q6 q7;have z0:=HS.o.res.frozen 0;have z1:=HS.o.res.frozen 1;have z2:=HS.o.res.frozen 2;have z3:=HS.o.res.frozen 3;have z4:=HS.o.res.frozen 4;have z5:=HS.o.res.frozen 5;have z6:=HS.o.res.frozen 6;have z7:=HS.o.res.frozen 7;have d0:=HS.o.res.cell 0;have d1:=HS.o.res.cell 1;have d2:=HS.o.res.cell 2;have d3:=HS.o.res.cell 3;have d4:=HS.o.res.cell 4;have d5:=HS.o.res.cell 5;have d6:=HS.o.res.cell 6;have d7:=HS.o.res.cell 7;have r1:=HS.o.rd.box.cell 1;obtain⟨BF,RF,FF⟩:=HS.o.fin (.int .i64 n) (.int .i64 fm) (.int .i64 sp) (.int .u32 0) (.int .u32 s) (.int .u32 c1) (.slice AF n cF) (.int .i64 0);have kn:=aa BF;have LN:=aa RF;have LI:=aa FF;clear BF RF FF;go_wp2_with fail;generalize ((((((((wr.setCell ⟨w.heap.size,0,none⟩ (.int .i64 (n:Int))).setCell ⟨w.heap.size,1,none⟩ (.int .i64 (fm:Int))).setCell ⟨w.heap.size,2,none⟩ (.int .i64 (sp:Int))).setCell ⟨w.heap.size,3,none⟩ (.int .u32 0)).setCell ⟨w.heap.size,4,none⟩ (.int .u32 (s:Int))).setCell ⟨w.heap.size,5,none⟩ (.int .u32 (c1:Int))).setCell ⟨w.heap.size,6,none⟩ (.slice AF n cF)).setCell ⟨w.heap.size,7,none⟩ (.int .i64 0))=WF at*;clear q0 z0 d0 q1 z1 d1 q2 z2 d2 q3 z3 d3 q4 z4 d4 q5 z5 d5 q6 z6 d6 q7 z7 d7;have f0:=kn.o.cell 0;have f1:=kn.o.cell 1;have f2:=kn.o.cell 2;have f3:=kn.o.cell 3;have f4:=kn.o.cell 4;have f5:=kn.o.cell 5;have f6:=kn.o.cell 6;have f7:=kn.o.cell 7;refine bodyPost_ret (v:=Fc ⟨n,fm,sp,c1,s⟩ (.slice AF n cF) 0) (by simp[results,Tryz.results198,go_sem,Fc,qH,f0,f1,f2,f3,f4,f5,f6,f7]) rfl ?_;exact⟨_,_,_,_,false,rfl,⟨_,_,_,_,rfl⟩,LN.o,LI.o,fun h=>(by cases h),fun _=>⟨_,WY.o,AF,cF,by rw[OW.o],by rw[OW.o];exact ri.o,fun a ha=>IE.o a ha⟩⟩
  .have hno:Ch ⟨n,fm,sp,c1,s⟩=false:=by simpa using hok
   have qX:=aa (show jT bs=none from Aq (by
    cases d4 with
    | true=>exact LF.o.1 rfl
    | false=>rw[LF.o.2 rfl,hno];rfl))
   have ahq:Ch ⟨n,fm,sp,0,s⟩=false:=hno;clear hno hok;have q0:=kq.o.box.cell 0;have q1:=kq.o.box.cell 1;have q2:=kq.o.box.cell 2;have q3:=kq.o.box.cell 3;have q4:=kq.o.box.cell 4;unfold qH at q0 q1 q2 q3 q4;have pT:=aa (y5 ⟨n,fm,sp,0,s⟩ hn3 Qd acP (show (0:Nat)<4294967296 by omega) Ze (ahq) W7 (kq.o.apl hs hsp));go_wp2_with fail;refine pT.o.mono ?_;rintro e w8 ⟨rfl,l9⟩;have gU:=aa ((kq.o.below l9).below ((Below.refl _ _).alloc (ai _) (.cells #[.int .u32 0,.int .u32 0,.int .u32 0] 248)));clear pT kq l9 q0 q1 q2 q3 q4;go_upto_region 10 with fail;generalize w8.alloc (.cells #[.int .u32 0,.int .u32 0,.int .u32 0] 248)=W8 at*;have y1:=gU.o.rd.box.frozen 1;have q1:=gU.o.rd.box.cell 1;have gu:=aa (gU.o.bad_);clear gU;go_upto_region 12 with fail;generalize W8.setCell ⟨rg,1,none⟩ (.bool true)=W9 at*;clear y1 q1;have q0:=gu.o.box.cell 0;have q1:=gu.o.box.cell 1;have q2:=gu.o.box.cell 2;have q3:=gu.o.box.cell 3;have q4:=gu.o.box.cell 4;have q5:=gu.o.box.cell 5;have q6:=gu.o.box.cell 6;have q7:=gu.o.box.cell 7;unfold qH at q0 q1 q2 q3 q4 q5 q6 q7;have z0:=gu.o.res.frozen 0;have z1:=gu.o.res.frozen 1;have z2:=gu.o.res.frozen 2;have z3:=gu.o.res.frozen 3;have z4:=gu.o.res.frozen 4;have z5:=gu.o.res.frozen 5;have z6:=gu.o.res.frozen 6;have z7:=gu.o.res.frozen 7;have d0:=gu.o.res.cell 0;have d1:=gu.o.res.cell 1;have d2:=gu.o.res.cell 2;have d3:=gu.o.res.cell 3;have d4:=gu.o.res.cell 4;have d5:=gu.o.res.cell 5;have d6:=gu.o.res.cell 6;have d7:=gu.o.res.cell 7;have r1:=gu.o.rd.box.cell 1;obtain⟨BF,RF,FF⟩:=gu.o.fin (.int .i64 n) (.int .i64 fm) (.int .i64 sp) (.int .u32 0) (.int .u32 s) (.int .u32 c1) (.slice none 0 0) (.int .i64 0);have kn:=aa BF;have LN:=aa RF;have LI:=aa FF;clear BF RF FF;go_wp2_with fail;generalize ((((((((W9.setCell ⟨w.heap.size,0,none⟩ (.int .i64 (n:Int))).setCell ⟨w.heap.size,1,none⟩ (.int .i64 (fm:Int))).setCell ⟨w.heap.size,2,none⟩ (.int .i64 (sp:Int))).setCell ⟨w.heap.size,3,none⟩ (.int .u32 0)).setCell ⟨w.heap.size,4,none⟩ (.int .u32 (s:Int))).setCell ⟨w.heap.size,5,none⟩ (.int .u32 (c1:Int))).setCell ⟨w.heap.size,6,none⟩ (.slice none 0 0)).setCell ⟨w.heap.size,7,none⟩ (.int .i64 0))=WF at*;clear q0 z0 d0 q1 z1 d1 q2 z2 d2 q3 z3 d3 q4 z4 d4 q5 z5 d5 q6 z6 d6 q7 z7 d7;have f0:=kn.o.cell 0;have f1:=kn.o.cell 1;have f2:=kn.o.cell 2;have f3:=kn.o.cell 3;have f4:=kn.o.cell 4;have f5:=kn.o.cell 5;have f6:=kn.o.cell 6;have f7:=kn.o.cell 7;refine bodyPost_ret (v:=Fc ⟨n,fm,sp,c1,s⟩ (.slice none 0 0) 0) (by simp[results,Tryz.results198,go_sem,Fc,qH,f0,f1,f2,f3,f4,f5,f6,f7]) rfl ?_;exact⟨_,_,_,_,true,rfl,⟨_,_,_,_,rfl⟩,LN.o,LI.o,fun _=>qX.o,fun h=>by cases h⟩
end
section
open Go.RowKit
theorem Hw {l:List Nat}{k:Nat}(h:k<l.length):(fP l)[k]? = some (.int .u8 (l.getD k 0:Nat)):=by
 unfold fP;rw[aB,au h,aq,au h];rfl
theorem PP (A A':Option Addr)(n n' c c':Nat)(xs ys:List Nat)(w:World)(hn:n<=9223372036854775807)(hn':n'<=9223372036854775807)(hr:eQ w w.heap.size 1 A n (fP xs))(hr':eQ w w.heap.size 1 A' n' (fP ys)):
 Calls Tryz.prog 250 #[.slice A n c,.slice A' n' c'] w fun e w'=>e= .returned (.bool (rU xs ys))/\∃ m,w'=w.drewN m:=by
 have hl:xs.length=n:=by have:=hr.1;rw[gW]at this;omega
 have hl':ys.length=n':=by have:=hr'.1;rw[gW]at this;omega
 have HL:=aa hl;have Sm:=aa hl';clear hl hl';have HR:=aa hr;have HR':=aa hr';clear hr hr';by_cases CU:n=n'
 .subst CU;go_enter Tryz.func250,Tryz.ntmps250;go_wp2_with fail
  go_loopw [13] (fun i wr=>∃ k:Nat,k<=n/\i= .int .i64 k/\xs.take k=ys.take k/\∃ m,wr=w.drewN m) (fun i _=>n-(intOf i).toNat)
  case atStart=>exact⟨0,by omega,rfl,rfl,0,rfl⟩
  case round=>
   obtain⟨k,hk,rfl,ht,m,rfl⟩:=hrel;have HT:=aa ht;clear ht;by_cases hlt:k<n
   .have hx:k<xs.length:=(by rw[HL.o];exact hlt);have hy:k<ys.length:=(by rw[Sm.o];exact hlt);obtain⟨ad,u,rfl,hbl,hu,hc⟩:=HR.o.at_ hlt;obtain⟨Vp,u',rfl,amf,hu',hc'⟩:=HR'.o.at_ hlt;rw[Hw hx]at hu;rw[Hw hy]at hu';injection hu with hu;injection hu' with hu';subst hu hu';have HX:=aa hx;have HY:=aa hy;clear hx hy;by_cases he:xs.getD k 0=ys.getD k 0
    .have HE:=aa (E1 HX.o HY.o he HT.o);have hv:((xs.getD k 0:Int) != (ys.getD k 0:Int))=false:=(by rw[he];simp);clear he;generalize xs.getD k 0=x at*;generalize ys.getD k 0=y at*;go_wp2_with fail
     go_region
     all_goals go_wp2_with fail
     all_goals go_roundw
     case rel=>exact⟨k+1,by omega,by go_num,HE.o,m+1,rfl⟩
     case measure=>simp[intOf];omega
    .have HE:=aa (RG HX.o HY.o he);have hv:((xs.getD k 0:Int) != (ys.getD k 0:Int))=true:=(by rw[bne_iff_ne];omega);clear he;generalize xs.getD k 0=x at*;generalize ys.getD k 0=y at*;go_wp2_with fail
     go_region
     all_goals go_wp2_with fail
     all_goals go_ret
     all_goals exact⟨by rw[HE.o];rfl,m+1,rfl⟩
   .obtain rfl:k=n:=(by omega);have HA:=aa (NK HL.o Sm.o HT.o);go_wp2_with fail;go_ret;exact⟨by rw[HA.o];rfl,m,rfl⟩
 .have HF:=aa (NL (xs:=xs) (ys:=ys) (by rw[HL.o,Sm.o];exact CU));have hv:((n:Int) != (n':Int))=true:=by simp;omega
  clear CU;go_enter Tryz.func250,Tryz.ntmps250;go_wp2_with fail;go_ret;exact⟨by rw[HF.o];rfl,0,rfl⟩
end
section
open Go.RowKit
attribute [local go_sem] ay
section
variable {w wi w':World}{B:Nat}{v vi:Value}{bs cs ds:List Nat}{e:Ending}
theorem iO.refl (ho:w.ownsRow B 5 1 v bs.length (fP bs)):iO B v bs [] w (.returned v) w:=
 ⟨v,rfl,by simpa using ho,ai _,rfl,rfl,rfl,fun _ _ _=>rfl,fun k hk=> .inl hk⟩
theorem iO.own (h:iO B v bs cs w (.returned vi) wi):wi.ownsRow B 5 1 vi (bs++cs).length (fP (bs++cs)):=by
 obtain⟨b',hb',h0,_⟩:=h;injection hb' with hb';subst hb';exact h0
theorem iO.size (h:iO B v bs cs w (.returned vi) wi):w.heap.size<=wi.heap.size:=by
 obtain⟨b',hb',h0,h1,_⟩:=h;exact h1
theorem iO.below (h:iO B v bs cs w (.returned vi) wi)(hb:Below wi.heap.size wi w'):iO B v bs cs w (.returned vi) w':=by
 obtain⟨b',hb',h0,h1,h2,h3,h4,h5,h6⟩:=h;injection hb' with hb';subst hb';refine⟨vi,rfl,fE h0 (fun k hk=>hb.block k (h0.lt k hk).2),aP h1 hb.size,hb.os.trans h2,hb.tape.trans h3,hb.output.trans h4,fun k hk hne=>(hb.block k (by omega)).trans (h5 k hk hne),fun k hk=>h6 k hk⟩
theorem iO.reads {A:Option Addr}{n:Nat}{xs:List Value}(h:iO B v bs cs w (.returned vi) wi)(hr:eQ w w.heap.size 1 A n xs)(hne:0<n->∀ a,A=some a->v.ownBlock≠some a.block):eQ wi wi.heap.size 1 A n xs:=by
 obtain⟨b',hb',h0,h1,h2,h3,h4,h5,h6⟩:=h;refine⟨hr.1,fun hn=>?_⟩;obtain⟨a,ha,hlt,hc⟩:=hr.2 hn;refine⟨a,ha,ax hlt h1,fun j u hu=>?_⟩;have hb:=h5 a.block hlt (hne hn a ha);exact (aD (a:=a.add j) (by rw[gi];exact hb)).trans (hc j u hu)
theorem iO.blk {g:Nat}{t:TypeId}{c:Array Value}(h:iO B v bs cs w (.returned vi) wi)(b:eW w g t c)(hne:v.ownBlock≠some g):eW wi g t c:=by
 obtain⟨b',hb',h0,h1,h2,h3,h4,h5,h6⟩:=h;exact b.same (h5 g b.lt hne)
theorem fN {ops:Array Oper}{rest:List Oper}{o:Oper}{a:Act}{Q:Exit->Act->World->Prop}{w0:World}{m c:Nat}{A:Option Addr}(s x:Operand)
 (S:iO B v bs cs w (.returned vi) wi)(hb:Below wi.heap.size wi w0)(hB:B<=w.heap.size)(hr:eQ w0 w0.heap.size 1 A m (fP ds))(hs:a.eval s=vi)(hx:a.eval x= .slice A m c)(hn:(bs++cs).length+m<=100000000000000)
 (ho:o.op= .call { callee:=.builtin .append,args:=#[s,x],argTypes:=#[22,22] })(hgd:o.guard=none)
 (h:∀ v' w',iO B v bs (cs++ds) w (.returned v') w'->wpList Tryz.prog ops Q rest (a.put o.dst v') w'):wpList Tryz.prog ops Q (o :: rest) a w0:=by
 obtain⟨i0,iF,hz0,hz1,hz2⟩:=info_parts kW;have hm:ds.length=m:=by have:=hr.1;rw[gW,bt]at this;exact this
 have hown:=S.own;have hsz:=S.size;refine eM _ hgd s x _ ho B 5 i0 _ 1 1 Tryz.underlying22 iF hz0 hz1 hz2 rfl (by omega) vi (bs++cs).length (fP (bs++cs)) hs (fE hown (fun k hk=>hb.block k (hown.lt k hk).2)) w0.heap.size A m c (fP ds) hx hr (kX _) (by simp only[maxLen];omega) (by omega) (by have:=hb.size;omega) ?_;intro v4 w4 vn tZ XG;exact h _ _ (S.app hb (by rw[hm];exact vn) tZ XG)
end
theorem RB.one (w:World)(x:Nat):RB w (w.alloc (.cells #[.int .u8 (x:Int)] 5)) w.heap.size (.slice (some ⟨w.heap.size,0,none⟩) 1 1) [x]:=
 RB.new (Rf w [x] 1 rfl (by decide)) ((Below.refl _ _).alloc (ai _) _) (Below.refl _ _)
theorem sq (x:Nat):(ml x).length=4:=rfl
end
end Go.Proofs.YtlkahgagmfhdaaaGreatDoor
