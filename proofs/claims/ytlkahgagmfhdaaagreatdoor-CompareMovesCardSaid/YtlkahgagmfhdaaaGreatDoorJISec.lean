import Derived.Test.YtlkahgagmfhdaaaGreatDoorJIHead
set_option linter.unusedVariables false
set_option linter.unusedSimpArgs false
set_option linter.unusedSectionVars false
open List renaming getElem?_eq_getElem→ae,getD_eq_getElem?_getD→af,length_append→ah,flatMap_cons→ai,getElem?_append_right→aq,getElem?_append_left→au,getElem?_eq_none→aw,ext_getElem→aA,getElem_cons_drop→aC,mem_of_mem_take→aF,getElem_map→aH
open Nat renaming le_trans→ag,le_refl→aj,lt_of_lt_of_le→ak,lt_or_ge→az
open Go.Oper renaming semAt_some→ar
open Go.World renaming cell?_of_block→ax,setCell→ay,size_alloc→aG
open Option.some renaming inj→aB
set_option maxRecDepth 100000
set_option maxHeartbeats 8000000
namespace Go.Proofs.YtlkahgagmfhdaaaGreatDoor
section
open Go.RowKit
attribute [local go_sem] ar
theorem QG:(Tryz.prog.info? 22).map (fun i=>(i.zero,i.size,i.bytes))=some (some (Value.slice none 0 0),1,24):=by kernel_rfl
def wI (w:World)(L:Nat)(vs:List Value)(ps:List (List Nat)):Prop:=
 vs.length=ps.length/\∀ (i:Nat) (p:List Nat),ps[i]? = some p->∃ (A:Option Addr) (c:Nat),vs[i]? = some (Value.slice A p.length c)/\p.length<=c/\eQ w L 1 A p.length (fP p)/\∀ x∈p,x<256
theorem wI.nil (w:World)(L:Nat):wI w L [] []:=⟨rfl,fun i p h=>by simp at h⟩
theorem wI.below {w w':World}{L:Nat}{vs:List Value}{ps:List (List Nat)}(P:wI w L vs ps)(h:Below L w w'):wI w' L vs ps:=
 ⟨P.1,fun i p hp=>by obtain⟨A,c,h1,h2,h3,h4⟩:=P.2 i p hp;exact⟨A,c,h1,h2,h3.below h,h4⟩⟩
theorem wI.snoc {w:World}{L c:Nat}{A:Option Addr}{vs:List Value}{ps:List (List Nat)}{p:List Nat}(P:wI w L vs ps)(hc:p.length<=c)(hr:eQ w L 1 A p.length (fP p))(h8:∀ x∈p,x<256):wI w L (vs++[.slice A p.length c]) (ps++[p]):=by
 refine⟨by simp[P.1],fun i q hq=>?_⟩;rcases az i ps.length with h|h
 .rw[au h]at hq;obtain⟨A',c',h1,h2⟩:=P.2 i q hq;exact⟨A',c',by rw[au (by rw[P.1];exact h)];exact h1,h2⟩
 .rw[aq h]at hq;have hi:i-ps.length=0:=by
   rcases Nat.eq_zero_or_pos (i-ps.length) with h0|h0
   .exact h0
   .rw[aw (by simp;omega)]at hq;cases hq
  rw[hi]at hq;simp at hq;subst hq;refine⟨A,c,?_,hc,hr,h8⟩;rw[aq (by rw[P.1];exact h),P.1,hi];rfl
def TI (L:Nat)(bs:List Nat)(w:World)(e:Ending)(w':World):Prop:=
 Below w.heap.size w w'/\match iy [72,79,82,90] bs with
  | .error E=>e= .returned (.tuple #[.slice none 0 0,.int .i64 (E:Nat)])
  | .ok (ps,r)=>if r=[] then ∃ v vs,e= .returned (.tuple #[v,.int .i64 0])/\w'.ownsRow w.heap.size 22 1 v 4 vs/\wI w' L vs ps/\ps.length=4 else e= .returned (.tuple #[.slice none 0 0,.int .i64 143])
def uS (bs:List Nat)(k:Nat)(ps:List (List Nat))(r:List Nat):Prop:=
 iy [72,79,82,90] bs=(match iy ([72,79,82,90].drop k) r with
  | .error e=> .error e
  | .ok (EQ,r')=> .ok (ps++EQ,r'))/\ps.length=k
theorem uS.start (bs:List Nat):uS bs 0 [] bs:=by
 refine⟨?_,rfl⟩
 cases h:iy [72,79,82,90] bs with
 | error e=>simp[h]
 | ok p=>simp[h]
theorem uS.fail {bs r:List Nat}{k t E:Nat}{ps:List (List Nat)}(S:uS bs k ps r)(ht:[72,79,82,90][k]? = some t)(h:mQ t r= .error E):iy [72,79,82,90] bs= .error E:=by
 obtain⟨h1,_⟩:=S;have hk:k<4:=by
  rcases az k 4 with h|h
  .exact h
  .rw[aw (by simpa using h)]at ht;cases ht
 have e:[72,79,82,90].drop k=t :: [72,79,82,90].drop (k+1):=by
  rw[ae (by simpa using hk)]at ht;injection ht with ht;rw[<-ht,aC]
 rw[h1,e];unfold iy;rw[h]
theorem uS.next {bs r r' p:List Nat}{k t:Nat}{ps:List (List Nat)}(S:uS bs k ps r)(ht:[72,79,82,90][k]? = some t)(h:mQ t r= .ok (p,r')):uS bs (k+1) (ps++[p]) r':=by
 obtain⟨h1,h2⟩:=S;have hk:k<4:=by
  rcases az k 4 with h|h
  .exact h
  .rw[aw (by simpa using h)]at ht;cases ht
 have e:[72,79,82,90].drop k=t :: [72,79,82,90].drop (k+1):=by
  rw[ae (by simpa using hk)]at ht;injection ht with ht;rw[<-ht,aC]
 refine⟨?_,by simp[h2]⟩;rw[h1,e]
 conv=>lhs;unfold iy
 rw[h];simp only
 cases iy ([72,79,82,90].drop (k+1)) r' with
 | error e=>rfl
 | ok q=>simp
structure rp (L:Nat) (W0 wr:World) (rg:Nat) (v:Value) (vs:List Value) (ps:List (List Nat)) (A:Option Addr) (c:Nat) (bs:List Nat):Prop where
 rd:lm wr L rg A c bs false
 fr:kw rg W0 wr
 own:wr.ownsRow W0.heap.size 22 1 v ps.length vs
 pay:wI wr L vs ps
 lt:rg<W0.heap.size
section
variable {L rg c c':Nat}{W0 wr w':World}{v v':Value}{vs:List Value}{ps:List (List Nat)}{A A':Option Addr}{bs gJ:List Nat}
theorem rp.read (S:rp L W0 wr rg v vs ps A c bs)(R:lm w' L rg A' c' gJ false)(F:kw rg wr w'):rp L W0 w' rg v vs ps A' c' gJ:=
 ⟨R,S.fr.trans F,fE S.own (fun k hk=>F.same k (S.own.lt k hk).2 (fun e=>by have:=(S.own.lt k hk).1;have:=S.lt;omega)),S.pay.below (F.below S.rd.far (by have:=S.lt;have:=S.fr.size;have:=S.rd.far;omega)),S.lt⟩
theorem rp.below (S:rp L W0 wr rg v vs ps A c bs)(h:Below wr.heap.size wr w'):rp L W0 w' rg v vs ps A c bs:=S.read (S.rd.below h) (kw.apa h)
theorem rp.app {p:List Nat}{Ap:Option Addr}{cp:Nat}(S:rp L W0 wr rg v vs ps A c bs)(hc:p.length<=cp)(hr:eQ wr L 1 Ap p.length (fP p))(h8:∀ x∈p,x<256)
 (ho:w'.ownsRow W0.heap.size 22 1 v' (ps.length+1) (vs++[.slice Ap p.length cp]))(hg:wr.grownBy w' v.ownBlock):rp L W0 w' rg v' (vs++[.slice Ap p.length cp]) (ps++[p]) A c bs:=by
 have po:∀ k,k<W0.heap.size->w'.heap[k]? = wr.heap[k]? :=fun k hk=>hg.block k (ak hk S.fr.size) (fun e=>by have:=(S.own.lt k (by first|exact e|exact e.symm)).1;omega);have hb:Below L wr w':=⟨hg.os,hg.tape,hg.output,hg.size,fun k hk=>po k (by have:=S.rd.far;have:=S.lt;omega)⟩;refine⟨⟨S.rd.box.same (po rg S.lt),S.rd.cap,S.rd.rd.below hb,S.rd.far,S.rd.b8⟩,⟨hg.os.trans S.fr.os,hg.tape.trans S.fr.tape,hg.output.trans S.fr.output,ag S.fr.size hg.size,fun k hk hne=>(po k hk).trans (S.fr.same k hk hne)⟩,by rw[ah];exact ho,(S.pay.snoc hc hr h8).below hb,S.lt⟩
end
theorem EZ {w:World}{A:Option Addr}{n c:Nat}{bs:List Nat}(hr:eQ w w.heap.size 1 A n (fP bs))(hc:n<=c)(hn:n<=9000000)(h8:∀ x∈bs,x<256):
 Calls Tryz.prog 196 #[.slice A n c] w (TI w.heap.size bs w):=by
 have hbl:bs.length=n:=by have:=hr.1;rw[gW]at this;omega
 have kc:=fun (w:World) (C:Array Value) (n c:Nat)=>Lib.run_convert_bytes_const (P:=Tryz.prog) w 22 5 C n c Tryz.underlying22 Tryz.underlying5;subst hbl;have HR:=aa hr;clear hr;go_enter Tryz.func196,Tryz.ntmps196;have SH:=kc (w.alloc (.cells #[.slice A bs.length c,.bool false] 300)) #[.int .u8 72,.int .u8 79,.int .u8 82,.int .u8 90] 4 4;rw[aG]at SH;clear kc;have Mm:Below w.heap.size w ((w.alloc (.cells #[.slice A bs.length c,.bool false] 300)).alloc (.cells #[.int .u8 72,.int .u8 79,.int .u8 82,.int .u8 90] 5 (4,5))):=((Below.refl _ w).alloc (aj _) _).alloc (by simp) _
 have TY:rp w.heap.size ((w.alloc (.cells #[.slice A bs.length c,.bool false] 300)).alloc (.cells #[.int .u8 72,.int .u8 79,.int .u8 82,.int .u8 90] 5 (4,5))) ((w.alloc (.cells #[.slice A bs.length c,.bool false] 300)).alloc (.cells #[.int .u8 72,.int .u8 79,.int .u8 82,.int .u8 90] 5 (4,5))) w.heap.size (.slice none 0 0) [] [] A c bs:=
  ⟨⟨(eW.new w _ _).alloc _,hc,HR.o.below Mm,aj _,h8⟩,kw.refl _ _,⟨rfl,.inl ⟨rfl,rfl⟩⟩,wI.nil _ _,by simp;omega⟩
 have hT:∀ k t,[72,79,82,90][k]? = some t->((w.alloc (.cells #[.slice A bs.length c,.bool false] 300)).alloc (.cells #[.int .u8 72,.int .u8 79,.int .u8 82,.int .u8 90] 5 (4,5))).cell? ⟨w.heap.size+1,k,none⟩=some (.int .u8 (t:Nat)):=fun k t ht=>by
  have h1:=heap_alloc_new (w.alloc (.cells #[.slice A bs.length c,.bool false] 300)) (.cells #[.int .u8 72,.int .u8 79,.int .u8 82,.int .u8 90] 5 (4,5));rw[aG]at h1;refine (cell_of_row _ (w.heap.size+1) k _ 5 (4,5) h1).trans ?_
  match k,ht with
  | 0,ht=>injection ht with ht;subst ht;rfl
  | 1,ht=>injection ht with ht;subst ht;rfl
  | 2,ht=>injection ht with ht;subst ht;rfl
  | 3,ht=>injection ht with ht;subst ht;rfl
 have hsz:((w.alloc (.cells #[.slice A bs.length c,.bool false] 300)).alloc (.cells #[.int .u8 72,.int .u8 79,.int .u8 82,.int .u8 90] 5 (4,5))).heap.size=w.heap.size+2:=by simp
 go_wp2_with fail;generalize ((w.alloc (.cells #[.slice A bs.length c,.bool false] 300)).alloc (.cells #[.int .u8 72,.int .u8 79,.int .u8 82,.int .u8 90] 5 (4,5)))=W0 at*;have HT:=aa (fun (wr:World) (h:kw w.heap.size W0 wr) (k t:Nat) (ht:[72,79,82,90][k]? = some t)=>(ax (h.same (w.heap.size+1) (by omega) (by omega))).trans (hT k t ht));have xt:=aa TY;have j8:=aa Mm;clear hT SH TY Mm HR
 go_loopw [5,17] (fun v i wr=>∃ (k:Nat) (vs:List Value) (ps:List (List Nat)) (A':Option Addr) (c':Nat) (gJ:List Nat),i= .int .i64 k/\k<=4/\rp w.heap.size W0 wr w.heap.size v vs ps A' c' gJ/\uS bs k ps gJ/\gJ.length<=bs.length) (fun _ i _=>4-(intOf i).toNat)
 case atStart=>exact⟨0,[],[],A,c,bs,rfl,by omega,xt.o,uS.start bs,aj _⟩
 case round=>
  clear xt;obtain⟨k,vs,ps,A',c',gJ,rfl,hk,S,G,hlen⟩:=hrel;have HS:=aa S;have HG:=aa G;have ux:=aa (fun (w':World) (h:kw w.heap.size W0 w')=>show Below w.heap.size w w' from⟨h.os.trans j8.o.os,h.tape.trans j8.o.tape,h.output.trans j8.o.output,ag j8.o.size h.size,fun k hk=>(h.same k (by omega) (by omega)).trans (j8.o.block k hk)⟩);by_cases hk4:k<4
  .obtain⟨t,ht⟩ :∃ t,[72,79,82,90][k]? = some t:=⟨_,ae (by simpa using hk4)⟩;have hd:decide ((k:Int)<4)=true:=(by simp;omega);have htc:=HT.o _ S.fr k t ht;have htb:t<256:=by
    have:=List.mem_of_getElem? ht;simp at this;omega
   have c0:=S.rd.box.cell 0;have Xe:=aa ht;have HE:=aa (fun (w':World) (h:kw w.heap.size W0 w') (E:Nat) (he:mQ t gJ= .error E)=>show TI w.heap.size bs w (.returned (.tuple #[.slice none 0 0,.int .i64 (E:Nat)])) w' from⟨ux.o _ h,by rw[G.fail ht he]⟩);clear ht S G
   match tC:gJ with
   | []=>
     have hF:=HE.o _ HS.o.fr 143 rfl;have HF:=aa hF;clear hF HE HS HG Xe;go_wp2_with fail;go_ret2;exact HF.o
   | x :: b1=>
     have wC:=aa (ul HS.o.rd (by omega));have Fa:b1.length+1<=bs.length:=(by simpa using hlen);go_wp2_with fail;refine wC.o.mono ?_;rintro e w5 ⟨x5,A5,c5,za,wJ,rfl,SG,R5,F5,D5,-⟩;obtain rfl:wJ=false:=D5.2 rfl ⟨_,rfl⟩;obtain⟨_,hq⟩:=D5.1 rfl;injection hq with hq;injection hq with hq1 hq2;subst hq1 hq2;have nG:=aa (HS.o.read R5 F5);clear wC D5 HS htc c0 R5 F5;by_cases hxt:x=t
     .subst hxt;have hne:((x:Int) != (x:Int))=false:=(by simp);have HNU:=aa (ji nG.o.rd (by omega));go_wp2_with fail;refine HNU.o.mono ?_;rintro e w6 ⟨n6,A6,c6,tA,Pt,rfl,hn6,R6,F6,D6,d6,hd6⟩;have k1:=R6.box.cell 1;have amT:tA.length<=b1.length:=(by rw[hd6,ah];omega);clear HNU hd6
      cases Pt with
      | true=>
        have hno:rdNum b1=none:=by
         cases hh:rdNum b1 with
         | none=>rfl
         | some q=>have:=D6.2 rfl ⟨q,hh⟩;cases this
        have HF:=aa (HE.o _ (nG.o.fr.trans F6) 143 (by unfold mQ;simp[hno]));clear HE nG HG Xe R6 F6 D6 hno;go_wp2_with fail;go_ret2;exact HF.o
      | false=>
        obtain⟨_,tq⟩:=D6.1 rfl;have lM:=aa (nG.o.read R6 F6);have mF:=aa tq;have k0:=R6.box.cell 0;clear nG R6 F6 D6 tq;have oq:IntKind.u64.wrap (tA.length:Int)=(tA.length:Int):=(by show (tA.length:Int)%18446744073709551616=_;omega);by_cases QA:tA.length<n6+4
        .have qZ:decide ((tA.length:Int)<(n6:Int)+4)=true:=(by simp;omega);have HF:=aa (HE.o _ lM.o.fr 143 (by unfold mQ;simp only[ne_eq,not_true_eq_false,if_false,mF.o];rw[if_pos QA]));clear HE lM HG Xe mF;go_wp2_with fail;go_ret2;exact HF.o
        .have qZ:decide ((tA.length:Int)<(n6:Int)+4)=false:=(by simp;omega);have ko:=aa (rP lM.o.rd (by omega) n6 (by omega));go_wp2_with fail;refine ko.o.mono ?_;rintro e w7 ⟨F7,(⟨_,rfl,R7⟩|⟨hlt,_⟩)⟩;rotate_left
         .omega
         have mf:=aa (lM.o.read R7 F7);have ajD:=lM.o.rd.cap;have HP7:=aa ((qB (k:=n6) (c:=c6) lM.o.rd.rd (by omega)).below (F7.below lM.o.rd.far (by have:=lM.o.rd.box.lt;have:=lM.o.rd.far;omega)));have WP:=aa (fun x (hx:x∈tA.take n6)=>lM.o.rd.b8 x (aF hx));clear ko R7 F7 lM k0 k1;have hl7:(tA.drop n6).length=tA.length-n6:=(by simp);have Qp:(tA.take n6).length=n6:=(by simp;omega);have tM:=aa (rP mf.o.rd (by omega) 4 (by omega));go_wp2_with fail;refine tM.o.mono ?_;rintro e w8 ⟨F8,(⟨_,rfl,R8⟩|⟨hlt,_⟩)⟩;rotate_left
         .omega
         have mG:=aa (mf.o.read R8 F8);have hrg:=mf.o.rd.box.lt;have T_:=F8.below mf.o.rd.far (Nat.le_of_lt hrg);have HP:=aa (HP7.o.below T_);have HQ:=aa ((qB (k:=4) (c:=c6-n6) mf.o.rd.rd (by omega)).below T_);have HQ8:=aa (fun x (hx:x∈(tA.drop n6).take 4)=>mf.o.rd.b8 x (aF hx));have h48:w.heap.size<=w8.heap.size:=(by have:=T_.size;omega);clear tM R8 F8 mf HP7 T_ hrg;have hQl:((tA.drop n6).take 4).length=4:=(by simp;omega);have h8p:∀ y∈x :: tA.take n6,y<256:=fun y hy=>by rcases List.mem_cons.1 hy with rfl|hy;exact SG;exact WP.o y hy
         obtain⟨hs1,hs2⟩:=sO h8p;have tO:=aa Qp;have oU:=aa (fun (A':Option Addr) (c':Nat) (w':World) (hr':eQ w' w'.heap.size 1 A' (n6+1) (fP (x :: tA.take n6)))=>sP A' (n6+1) c' w'.heap.size (x :: tA.take n6) w' (by omega) hr' h8p);rw[hs1]at oU;have HDR:=aa (show mQ x (x :: b1)=if (tA.drop n6).take 4=ml (mW (x :: tA.take n6)) then .ok (tA.take n6,tA.drop (n6+4)) else .error 144 by
          unfold mQ;simp only[ne_eq,not_true_eq_false,if_false,mF.o];rw[if_neg QA])
         have ZH:=aa (show (tA.drop n6).drop 4=tA.drop (n6+4) by rw[List.drop_drop]);clear h8p hs1 Qp mF;generalize VM:tA.take n6=pp at*;generalize hqg:(tA.drop n6).take 4=qq at*;clear VM hqg;go_wp2_with (at_builtin;refine jY (.tmp 57) (.tmp 58) (RB.one w8 x) (((HP.o.below ((Below.refl _ _).alloc (aj _) (.cells #[.int .u8 (x:Int)] 5) |>.mono h48)).more (by simp;omega))) rfl rfl (by simp;omega) rfl rfl ?_;intro v9 w9 C9 yC;clear yC;have Cq:=aa C9;clear C9);obtain⟨A9,c9,rfl,Zd⟩:=Cq.o.reads;have og:eQ w9 w9.heap.size 1 A9 (n6+1) (fP (x :: pp)):=by
          have e:=tO.o;simp only[ah,List.length_cons,List.length_nil,e]at Zd;rw[Nat.add_comm]at Zd;exact Zd
         have HM:=aa (oU.o A9 c9 w9 og);have Bu:=aa Cq.o.base;have e4:([x]++pp).length=n6+1:=(by rw[ah,tO.o];simp;omega);rw[e4];clear Zd og Cq oU e4;refine HM.o.mono ?_;rintro e w10 ⟨rfl,rfl⟩;have gU:=aa (mG.o.below Bu.o);have m_:=aa (HP.o.below (Bu.o.mono h48));have aai:=aa ((HQ.o.below (Bu.o.mono h48)).more (B':=w9.heap.size) (by have:=Bu.o.size;omega));have h4a:w.heap.size<=w9.heap.size:=(by have:=Bu.o.size;omega);clear mG HP HQ Bu HM;go_wp2_with fail;refine (C1 (mW (x :: pp)) hs2 _).mono ?_;rintro e w11 ⟨v11,rfl,Qt,BZ⟩;obtain⟨A11,c11,rfl,vq⟩:=fy Qt;have gu:=aa (gU.o.below BZ);have Ts:=aa (m_.o.below (BZ.mono h4a));have Sh:=aa (PP (iH (iH A6 c6 n6) (c6-n6) 0) A11 4 4 (c6-n6) c11 qq (ml (mW (x :: pp))) w11 (by omega) (by omega) ((aai.o.below BZ).more BZ.size) vq);have h4b:w.heap.size<=w11.heap.size:=(by have:=BZ.size;omega);clear gU m_ aai BZ vq Qt;go_wp2_with fail;refine Sh.o.mono ?_;rintro e w12 ⟨rfl,m12,rfl⟩;have oa:Below w11.heap.size w11 (w11.drewN m12):=⟨rfl,rfl,rfl,aj _,fun _ _=>rfl⟩;have lK:=aa (gu.o.below oa);have Pa:=aa (Ts.o.below (oa.mono h4b));clear gu Ts Sh oa;generalize w11.drewN m12=w12 at*;by_cases heq:qq=ml (mW (x :: pp))
         .have X9:rU qq (ml (mW (x :: pp)))=true:=(by rw[heq];exact AD _);have hdr:=HDR.o;rw[if_pos heq,<-ZH.o]at hdr;have mn:=aa (HG.o.next Xe.o hdr);clear heq hdr HDR HE HG Xe ZH;have hpl:=tO.o;have HOW:=aa lK.o.own;obtain⟨i0,iF,hz0,hz1,hz2⟩:=info_parts QG;have EA:ps.length=k:=(by have:=mn.o.2;simp at this;omega);have h4c:w.heap.size<=w12.heap.size:=(by have:=lK.o.rd.box.lt;omega);have HPA:=aa (Pa.o.below ((Below.refl w12.heap.size w12).alloc (aj _) (.cells #[.slice (iH A6 c6 0) n6 c6] 22) |>.mono h4c));have l7:=aa (lK.o.below ((Below.refl _ _).alloc (aj _) (.cells #[.slice (iH A6 c6 0) n6 c6] 22)));go_wp2_with (at_builtin;refine eM _ rfl (.tmp 64) (.tmp 66) _ rfl W0.heap.size 22 i0 _ 1 24 Tryz.underlying241 iF hz0 hz1 hz2 rfl (by omega) u5 ps.length vs rfl l7.o.own (w12.heap.size+1) (some ⟨w12.heap.size,0,none⟩) 1 1 [.slice (iH A6 c6 0) n6 c6] rfl ⟨rfl,fun _=>⟨_,rfl,by simp,cell_one_new _ _ _⟩⟩ (fun u hu=>by rcases List.mem_singleton.1 hu with rfl;rfl) (by simp only[maxLen];omega) (by omega) (by have:=lK.o.fr.size;simp;omega) ?_;intro v13 w13 Qu KW abm;have kE:=aa (l7.o.app (p:=pp) (Ap:=iH A6 c6 0) (cp:=c6) (by omega) (by rw[hpl];exact HPA.o) WP.o (by rw[hpl];exact Qu) KW);clear Qu KW abm);have aj1:(tA.drop n6).drop 4=(tA.drop n6).drop 4:=rfl;go_roundw
          case rel=>
           have Mw:((tA.drop n6).drop 4).length<=bs.length:=(by simp;omega);exact⟨k+1,_,ps++[pp],_,_,(tA.drop n6).drop 4,by go_num,by omega,kE.o,mn.o,Mw⟩
          case measure=>simp[intOf];omega
         .have X9:rU qq (ml (mW (x :: pp)))=false:=(by unfold rU;rw[beq_eq_false_iff_ne];exact heq);have HF:=aa (HE.o _ lK.o.fr 144 (by rw[HDR.o,if_neg heq]));clear HE lK HG Xe HDR ZH heq;go_wp2_with fail;go_ret2;exact HF.o
     .have hne:((x:Int) != (t:Int))=true:=(by simp;omega);have HF:=aa (HE.o _ nG.o.fr 142 (by unfold mQ;simp[hxt]));clear HE nG HG Xe;go_wp2_with fail;go_ret2;exact HF.o
  .obtain rfl:k=4:=(by omega);have hd:decide ((4:Int)<4)=false:=(by decide);have c0:=S.rd.box.cell 0;have hps:=G.2;have hg:=G.1;have hdn:iy ([72,79,82,90].drop 4) gJ= .ok ([],gJ):=rfl;rw[hdn]at hg;simp only[List.append_nil]at hg;have HGG:=aa hg;clear hg G HG HS hdn hk hk4;by_cases h0:gJ.length=0
   .have hd0:decide (0<(gJ.length:Int))=false:=decide_eq_false (by omega);have VE:gJ=[]:=List.eq_nil_of_length_eq_zero h0
    have HF:=aa (show TI w.heap.size bs w (.returned (.tuple #[u5,.int .i64 0])) wr from⟨ux.o _ S.fr,by
     rw[HGG.o];simp only;rw[if_pos VE]
     exact⟨u5,vs,rfl,by
      have ho:=S.own;rw[hps]at ho;refine⟨ho.1,?_⟩;rcases ho.2 with h1|⟨g,cap,cur,h1,h2,h3⟩
      .exact .inl h1
      .exact .inr ⟨g,cap,cur,h1,ag j8.o.size h2,h3⟩,S.pay,hps⟩⟩)
    clear HGG S VE;go_wp2_with fail;go_ret2;exact HF.o
   .have hd0:decide (0<(gJ.length:Int))=true:=decide_eq_true (by omega);have VE:gJ≠[]:=fun e=>h0 (by rw[e];rfl)
    have HF:=aa (show TI w.heap.size bs w (.returned (.tuple #[.slice none 0 0,.int .i64 143])) wr from⟨ux.o _ S.fr,by
     rw[HGG.o];simp only;rw[if_neg VE];trivial⟩)
    clear HGG S VE;go_wp2_with fail;go_ret2;exact HF.o
end
section
open Go.RowKit
attribute [local go_sem] ar
theorem Uw:(Tryz.prog.info? 303).map (fun i=>(i.zero,i.size,i.bytes))=some (some (Value.agg #[.int .i64 0,.int .i64 0,.int .i64 0,.int .u32 0,.int .u32 0,.int .u32 0,.slice none 0 0,.int .i64 0]),8,72):=by kernel_rfl
structure Wr where
 x:Hd
 A:Option Addr
 c:Nat
 fs:List Nat
 pl:Nat
instance:Inhabited Wr:=⟨⟨⟨0,0,0,0,0⟩,none,0,[],0⟩⟩
def Wr.th (u:Wr):Th:=⟨u.x,u.fs⟩
def Wr.cells (u:Wr):List Value:=[.int .i64 u.x.size,.int .i64 u.x.fmt,.int .i64 u.x.spare,.int .u32 0,.int .u32 u.x.ser,.int .u32 u.x.cls,.slice u.A u.fs.length u.c,.int .i64 u.pl]
def Ib (us:List Wr):List Value:=us.flatMap Wr.cells
theorem Sc (l:List Wr)(u:Wr):Ib (l++[u])=Ib l++u.cells:=by simp[Ib]
theorem Yt (n:Wr):∀ u∈n.cells,u.oneCell'=true:=by
 intro u hu;simp[Wr.cells]at hu;rcases hu with rfl|rfl|rfl|rfl|rfl|rfl|rfl|rfl <;> rfl
theorem Lu:∀ (l:List Wr) (i j:Nat),i<l.length->j<8->(Ib l)[i*8+j]? = ((l.getD i default).cells)[j]?
 | [],i,j,hi,hj=>by simp at hi
 | a :: l,0,j,hi,hj=>by
   unfold Ib;rw[ai,au (by simp[Wr.cells];omega)];simp
 | a :: l,i+1,j,hi,hj=>by
   have ih:=Lu l i j (by simpa using hi) hj;unfold Ib at*;rw[ai,aq (by simp[Wr.cells];omega)];rw[show (i+1)*8+j-a.cells.length=i*8+j by simp[Wr.cells];omega,ih];simp
theorem U1 (l:List Wr)(i:Nat)(hi:i<l.length)(at_:Nat):Ib (l.set i { (l.getD i default) with pl:=at_ })=(Ib l).set (i*8+7) (.int .i64 at_):=by
 induction l generalizing i with
 | nil=>simp at hi
 | cons a l ih=>
   cases i with
   | zero=>
     unfold Ib;rw[List.set_cons_zero,ai,ai,List.set_append_left _ _ (by simp[Wr.cells])];rfl
   | succ i=>
     have:=ih i (by simpa using hi);unfold Ib at*;rw[List.set_cons_succ,ai,ai,List.set_append_right _ _ (by simp[Wr.cells];omega)];rw[show (i+1)*8+7-a.cells.length=i*8+7 by simp[Wr.cells];omega,<-this];simp
def BU (w:World)(g:Nat)(us:List Wr):Prop:=∃ cur,eW w g 303 cur/\cur.toList.take (us.length*8)=Ib us
section
variable {w w':World}{g:Nat}{us:List Wr}
theorem BU.lt (h:BU w g us):g<w.heap.size:=by obtain⟨_,h,_⟩:=h;exact h.lt
theorem BU.same (h:BU w g us)(hs:w'.heap[g]? = w.heap[g]?):BU w' g us:=by obtain⟨cur,hb,r⟩:=h;exact⟨cur,hb.same hs,r⟩
theorem BU.below (h:BU w g us)(hb:Below w.heap.size w w'):BU w' g us:=h.same (hb.block g h.lt)
theorem BU.frozen (h:BU w g us)(i:Nat):w.frozen? ⟨g,i,none⟩=false:=by obtain⟨cur,hb,_⟩:=h;exact hb.frozen i
theorem BU.cell (h:BU w g us){i j:Nat}{u:Value}(hi:i<us.length)(hj:j<8)(hu:((us.getD i default).cells)[j]? = some u):w.cell? ⟨g,i*8+j,none⟩=some u:=by
 obtain⟨cur,hb,r⟩:=h;rw[hb.cell (i*8+j)];have h1:(Ib us)[i*8+j]? = some u:=by rw[Lu us i j hi hj];exact hu
 rw[<-r,List.getElem?_take]at h1;split at h1
 .rw[<-h1];simp
 .cases h1
theorem BU.place (h:BU w g us)(i:Nat)(hi:i<us.length)(at_:Nat):BU (w.setCell ⟨g,i*8+7,none⟩ (.int .i64 at_)) g (us.set i { (us.getD i default) with pl:=at_ }):=by
 obtain⟨cur,hb,r⟩:=h;refine⟨_,hb.apg (i*8+7) (.int .i64 at_),?_⟩;rw[U1 us i hi,List.length_set,<-r];simp[List.take_set]
end
theorem UN {w:World}{base n:Nat}{v:Value}{us:List Wr}(h:w.ownsRow base 303 8 v n (Ib us))(hn:us.length=n)(h0:0<n):∃ g c,v= .slice (some ⟨g,0,none⟩) n c/\BU w g us/\base<=g:=by
 rcases h.2 with ⟨rfl,h1⟩|⟨g,cap,cur,rfl,hb,hg,hh,hc,hs,ht⟩
 .omega
 .refine⟨g,cap,rfl,⟨cur,hg,?_⟩,hb⟩;rw[hn];exact ht
end
section
open Go.RowKit
attribute [local go_sem] ar
theorem UW (x:Nat)(hx:2*x<4294967296):bits .or .u32 ((2*x:Nat):Int) 1=((2*x+1:Nat):Int):=by
 have h:=u32_or_nat (2*x) 1 hx (by omega);rw[show 2*x ||| 1=2*x+1 from by
  have h2:=Nat.shiftLeft_add_eq_or_of_lt (i:=1) (b:=1) (by omega) x;rw[Nat.shiftLeft_eq]at h2;rw[show 2*x=x*2 ^ 1 by omega];exact h2.symm]at h
 exact h
theorem M9 (v:Int)(h1: -1073741824<=v)(h2:v<=1073741823)(w:World):Calls Tryz.prog 274 #[.int .i64 v] w fun e w'=>e= .returned (.bool true)/\w=w':=by
 go_enter Tryz.func274,Tryz.ntmps274;go_wp2_with fail;go_ret;exact⟨by simp,rfl⟩
theorem zX (v:Int)(h1: -1073741824<=v)(h2:v<=1073741823)(w:World):Calls Tryz.prog 253 #[.int .i64 v] w fun e w'=>e= .returned (.tuple #[.int .u32 (rW v:Nat),.int .i64 0])/\w=w':=by
 have HF:=aa (M9 v h1 h2 w);obtain⟨x,hx⟩ :∃ x:Nat,((2*x:Nat):Int)=v%4294967296*2%4294967296:=⟨(v%2147483648).toNat,by omega⟩;have Yg:2*x<4294967296:=by omega
 have Ow:bits .or .u32 (v%4294967296*2%4294967296) 1=((2*x+1:Nat):Int):=by rw[<-hx];exact UW x Yg
 have HV:=aa (show rW v=2*x+1 by unfold rW;omega);clear hx Yg;go_enter Tryz.func253,Tryz.ntmps253;go_wp2_with fail;refine HF.o.mono ?_;rintro e w1 ⟨rfl,rfl⟩;go_wp2_with fail;go_ret2;exact⟨by rw[HV.o];rfl,rfl⟩
structure aaO (w:World) (b5 bf:Nat) (A:Option Addr) (c:Nat) (us:List Wr) (fine:Bool):Prop where
 aqT:eW w b5 301 #[.slice A us.length c]
 fn:eW w bf 4 #[.bool fine]
 row:0<us.length->∃ g,A=some ⟨g,0,none⟩/\BU w g us
 pl:∀ i,i<us.length->(us.getD i default).pl=fL ((us.map Wr.th).take i)
 top:fL (us.map Wr.th)<=1048576
 len:us.length<=9000000
def Fg (bf:Nat)(v:Nat)(fine:Bool)(w:World)(e:Ending)(w':World):Prop:=
 e= .returned (.int .u32 (v:Nat))/\eW w' bf 4 #[.bool fine]/\kw bf w w'
theorem vB {w:World}{b5 bf c:Nat}{A:Option Addr}{us:List Wr}{fine:Bool}(S:aaO w b5 bf A c us fine)(n:Nat)(hn:n<4294967296):
 Calls Tryz.prog 251 #[.int .u32 n,.pointer (some ⟨b5,0,none⟩),.pointer (some ⟨bf,0,none⟩)] w (Fg bf (kh (us.map Wr.th) n) (fine && !jb (us.map Wr.th) n) w):=by
 have c0:=S.aqT.cell 0;have c1:=S.fn.cell 0;have z1:=S.fn.frozen 0;have hlen:=S.len;have Ix:(us.map Wr.th).length=us.length:=List.length_map ..;by_cases h0:n=0
 .subst h0
  have HF:=aa (show Fg bf (kh (us.map Wr.th) 0) (fine && !jb (us.map Wr.th) 0) w (.returned (.int .u32 0)) w from
   ⟨rfl,by rw[show (fine && !jb (us.map Wr.th) 0)=fine by unfold jb;simp];exact S.fn,kw.refl _ _⟩)
  clear S;go_enter Tryz.func251,Tryz.ntmps251;go_wp2_with fail;go_ret;exact HF.o
 have hz:((n:Int) == 0)=false:=by simp;omega
 have hw:IntKind.u32.wrap (us.length:Int)=(us.length:Int):=by show (us.length:Int)%4294967296=_;omega
 by_cases tY:us.length<n
 .have hd:decide ((us.length:Int)<(n:Int))=true:=by simp;omega
  have HF:=aa (show Fg bf (kh (us.map Wr.th) n) (fine && !jb (us.map Wr.th) n) w (.returned (.int .u32 0)) (w.setCell ⟨bf,0,none⟩ (.bool false)) from by
   refine⟨by unfold kh;rw[if_neg h0,if_pos (by rw[Ix];exact tY)];rfl,?_,kw.set _ _ _ _⟩;rw[show (fine && !jb (us.map Wr.th) n)=false by unfold jb;rw[Ix];simp[tY]];exact S.fn.apg 0 _)
  clear S h0;go_enter Tryz.func251,Tryz.ntmps251;go_wp2_with fail;go_ret;exact HF.o
 .have hd:decide ((us.length:Int)<(n:Int))=false:=by simp;omega
  obtain⟨g,hA,hrow⟩:=S.row (by omega);subst hA;have hpl:=S.pl (n-1) (by omega);have mh:=hrow.cell (i:=n-1) (j:=7) (u:=.int .i64 (us.getD (n-1) default).pl) (by omega) (by omega) rfl;have SE:1<=(us.getD (n-1) default).pl:=by rw[hpl];unfold fL;omega
  have Iu:(us.getD (n-1) default).pl<=1048576:=by rw[hpl];exact ag (DB _ _) S.top
  have Cp:=aa (yG (us.getD (n-1) default).pl SE (by omega) w);have HF:=aa (show Fg bf (kh (us.map Wr.th) n) (fine && !jb (us.map Wr.th) n) w (.returned (.int .u32 (2*(us.getD (n-1) default).pl:Nat))) w from by
   refine⟨?_,?_,kw.refl _ _⟩
   .unfold kh;rw[if_neg h0,if_neg (by rw[Ix];omega),<-hpl,Nat.mod_eq_of_lt (by omega)]
   .rw[show (fine && !jb (us.map Wr.th) n)=fine by unfold jb;rw[Ix];simp;omega];exact S.fn)
  clear S hrow hpl;generalize (us.getD (n-1) default).pl=pl at*;obtain⟨m,rfl⟩ :∃ m,n=m+1:=⟨n-1,by omega⟩;have xH:((m+1:Nat):Int)-1=(m:Int):=by omega
  have hlt:(m:Int)<(us.length:Int):=by omega
  simp only[Nat.add_sub_cancel]at mh;clear h0;go_enter Tryz.func251,Tryz.ntmps251;go_wp2_with fail;refine Cp.o.mono ?_;rintro e w1 ⟨rfl,rfl⟩;go_wp2_with fail;go_ret;exact HF.o
structure aaQ (w:World) (b5 bf b13:Nat) (A:Option Addr) (c:Nat) (us:List Wr) (fine:Bool):Prop where
 b:aaO w b5 bf A c us fine
 cl:eW w b13 55 #[.func (.func 251) #[] #[.pointer (some ⟨b5,0,none⟩),.pointer (some ⟨bf,0,none⟩)]]
theorem qj {w:World}{b5 bf b13 c:Nat}{A:Option Addr}{us:List Wr}{fine:Bool}(S:aaQ w b5 bf b13 A c us fine)(n:Nat)(hn:n<4294967296):
 Calls Tryz.prog 252 #[.int .u32 n,.pointer (some ⟨b13,0,none⟩)] w (Fg bf (js (us.map Wr.th) n) (fine && !fX (us.map Wr.th) n) w):=by
 have c0:=S.cl.cell 0;have hand:=xW n hn;by_cases h0:n%2=0
 .have HN:=aa (vB S.b (n/2) (by omega));have HE:=aa (show js (us.map Wr.th) n=kh (us.map Wr.th) (n/2)/\fX (us.map Wr.th) n=jb (us.map Wr.th) (n/2) from⟨by unfold js;rw[if_pos h0],by unfold fX;rw[decide_eq_true h0,Bool.true_and]⟩);rw[h0]at hand;have hdv:((n/2:Nat):Int)=(n:Int)/2:=by omega
  rw[hdv]at HN;clear S h0 hdv;go_enter Tryz.func252,Tryz.ntmps252;go_wp2_with fail;refine HN.o.mono ?_;rintro e w1 ⟨rfl,h1,h2⟩;have HR:=aa (And.intro h1 h2);clear h1 h2;go_wp2_with fail;go_ret;rw[HE.o.1,HE.o.2];exact⟨rfl,HR.o.1,HR.o.2⟩
 .have h1:n%2=1:=by omega
  have HE:=aa (show js (us.map Wr.th) n=rW (Ck (n/2))/\(fine && !fX (us.map Wr.th) n)=fine from⟨by unfold js;rw[if_neg h0],by unfold fX;rw[decide_eq_false h0];simp⟩);have HB:=aa S.b.fn;rw[h1]at hand;clear S h0;obtain⟨z,hz⟩ :∃ z,z=n/2:=⟨_,rfl⟩;have hzl:z<2147483648:=by omega
  have Zg:(n:Int)/2=(z:Int):=by omega
  by_cases hp:z%2=0
  .have HV:=aa (show Ck (n/2)=(z:Int)/2 by rw[<-hz];unfold Ck;rw[if_pos hp];omega);have hr:((z:Int)%2 == 1)=false:=(by simp;omega);have HS:=aa (zX ((z:Int)/2) (by omega) (by omega) w);rw[HV.o]at HE;clear hp hz h1 HV;go_enter Tryz.func252,Tryz.ntmps252;go_wp2_with fail;refine HS.o.mono ?_;rintro e w1 ⟨rfl,rfl⟩;go_wp2_with fail;go_ret;rw[HE.o.1,HE.o.2];exact⟨rfl,HB.o,kw.refl _ _⟩
  .obtain⟨y,hy⟩ :∃ y,y=(z+1)/2:=⟨_,rfl⟩;have hyb:y<=1073741824:=(by omega);have HV:=aa (show Ck (n/2) = -(y:Int) by rw[<-hz];unfold Ck;rw[if_neg hp,hy]);have hr:((z:Int)%2 == 1)=true:=(by simp;omega);have HS:=aa (zX (-(y:Int)) (by omega) (by omega) w);have hq:((z:Int)+1).tdiv 2=(y:Int):=(by rw[Int.tdiv_eq_ediv_of_nonneg (by omega)];omega);rw[HV.o]at HE;clear hp hz h1 HV hy;go_enter Tryz.func252,Tryz.ntmps252;go_wp2_with fail;refine HS.o.mono ?_;rintro e w1 ⟨rfl,rfl⟩;go_wp2_with fail;go_ret;rw[HE.o.1,HE.o.2];exact⟨rfl,HB.o,kw.refl _ _⟩
end
section
open Go.RowKit
attribute [local go_sem] ar
structure BQ (M:Nat) (A B:World):Prop where
 os:B.os=A.os
 tape:B.tape=A.tape
 output:B.output=A.output
 size:A.heap.size<=B.heap.size
 low:∀ k,k<M->B.heap[k]? = A.heap[k]?
 cells:∀ k cs t,t≠5->t≠22->eW A k t cs->eW B k t cs
theorem BQ.refl (M:Nat)(A:World):BQ M A A:=⟨rfl,rfl,rfl,aj _,fun _ _=>rfl,fun _ _ _ _ _ b=>b⟩
theorem BQ.trans {M:Nat}{A B C:World}(h:BQ M A B)(k:BQ M B C):BQ M A C:=
 ⟨k.os.trans h.os,k.tape.trans h.tape,k.output.trans h.output,ag h.size k.size,fun i hi=>(k.low i hi).trans (h.low i hi),fun i cs t h1 h2 b=>k.cells i cs t h1 h2 (h.cells i cs t h1 h2 b)⟩
theorem BQ.apa {M:Nat}{A B:World}(hb:Below A.heap.size A B)(hM:M<=A.heap.size):BQ M A B:=
 ⟨hb.os,hb.tape,hb.output,hb.size,fun k hk=>hb.block k (by omega),fun k cs t _ _ b=>b.below hb b.lt⟩
theorem BQ.book {M:Nat}(W:World)(l:Nat)(o o':Obj)(h1:M<=l)(hl:W.heap[l]? = some o)(hc:o.isCells=false):BQ M W (W.putObj l o'):=by
 have hg:=grownBy_putObj' W l o';have hk:∀ k,k≠l->(W.putObj l o').heap[k]? = W.heap[k]? :=fun k hk=>by
  rcases az k W.heap.size with h|h
  .exact hg.block k h (fun e=>by first|exact hk (aB e).symm|exact hk (aB e))
  .have e1:(W.putObj l o').heap.size=W.heap.size:=(by simp[World.putObj]);rw[Array.getElem?_eq_none (by omega),Array.getElem?_eq_none (by omega)]
 exact⟨hg.os,hg.tape,hg.output,hg.size,fun k h=>hk k (by omega),fun g cs t _ _ b=>b.same (hk g (fun e=>by
  subst e;have e2:=aB (hl.symm.trans b);rw[e2]at hc;cases hc))⟩
theorem Row.aqR {M g c:Nat}{A B:World}{e:TypeId}{xs:List Value}(h:Row A g e c xs)(k:BQ M A B)(h1:e≠5)(h2:e≠22):Row B g e c xs:=by
 obtain⟨cur,hb,r⟩:=h;exact⟨cur,k.cells g cur e h1 h2 hb,r⟩
theorem BQ.need {w:World}{h:HM}{n0:Nat}(hs:eX w):Vn (fun A B=>BQ w.heap.size A B) n0 h:=
 ⟨fun k _ H=>⟨k.cells _ _ _ (by decide) (by decide) H.1,H.2.1.aqR k (by decide) (by decide),H.2.2.1.aqR k (by decide) (by decide),H.2.2.2.aqR k (by decide) (by decide)⟩,
   fun k hA i hi=>(ax (k.low _ (World.block_lt_of_cell? _ _ (hs i hi)))).trans (hA i hi)⟩
theorem KeepsFrom.aqJ {w w':World}{B:Nat}(hb:Below w.heap.size w w'):KeepsFrom B w w':=⟨hb.size,fun k o _ ho _=>(hb.block k (fA ho)).trans ho⟩
structure On (w:World) (sg bS bB:Nat) (v:Value) (bs:List Nat) (W:World):Prop where
 rb:RB w W w.heap.size v bs
 bb:eW W bB 22 #[v]
 bx:eW W bS 192 #[.pointer (some ⟨sg,0,none⟩)]
section
variable {w W W':World}{sg bS bB:Nat}{v v':Value}{bs gJ:List Nat}
theorem On.below (S:On w sg bS bB v bs W)(hb:Below W.heap.size W W'):On w sg bS bB v bs W':=⟨S.rb.below hb,S.bb.below hb S.bb.lt,S.bx.below hb S.bx.lt⟩
theorem Dr {w:World}{base:Nat}{e:TypeId}{v:Value}{n g:Nat}{xs:List Value}{o:Obj}(h:w.ownsRow base e 1 v n xs)(ho:w.heap[g]? = some o)(hne:∀ cs,o≠ .cells cs e (0,0)):v.ownBlock≠some g:=by
 intro hk;rcases h.2 with ⟨h1,_⟩|⟨g',cap,cur,h1,h2,h3,h4⟩
 .rw[h1]at hk;cases hk
 .rw[h1]at hk;have e1:g'=g:=by injection hk
  rw[e1,ho]at h3;injection h3 with h3;exact hne _ h3
theorem iT {w:World}{base:Nat}{e t:TypeId}{v:Value}{n g:Nat}{xs:List Value}{cs:Array Value}(h:w.ownsRow base e 1 v n xs)(b:eW w g t cs)(hne:e≠t):v.ownBlock≠some g:=
 Dr h b (fun cs' e=>hne (by injection e with _ e;exact e.symm))
theorem On.apw {B:Nat}{row:Option Nat}(S:On w sg bS bB v bs W)(hB:w.heap.size<=B)(hg:W.grownBy W' row)(hr:∀ r,row=some r->B<=r/\∃ o:Obj,W.heap[r]? = some o/\o.isCells=false):On w sg bS bB v bs W':=by
 have hc:∀ g cs t,eW W g t cs->W'.heap[g]? = W.heap[g]? :=fun g cs t b=>hg.block g b.lt (fun e=>by
  obtain⟨_,o,ho,hc⟩:=hr g e.symm;unfold eW at b;rw[b]at ho;injection ho with ho;subst ho;cases hc)
 refine⟨⟨fE S.rb.own (fun k hk=>?_),S.rb.base.grown hg S.rb.base.size (fun k e=>by have:=(hr k e).1;omega),S.rb.hB,ag S.rb.top hg.size⟩,S.bb.same (hc _ _ _ S.bb),S.bx.same (hc _ _ _ S.bx)⟩;rcases S.rb.own.2 with ⟨h1,_⟩|⟨g',cap,cur,h1,h2,h3,h4⟩
 .rw[h1]at hk;cases hk
 .rw[h1]at hk;have e1:g'=k:=by injection hk
  rw[e1]at h3;exact hc _ _ _ h3
theorem On.app {B:Nat}(S:On w sg bS bB v bs W)(hB:w.heap.size<=bB)(C:RB w W' w.heap.size v' gJ)(hg:W.grownBy W' v.ownBlock):
 On w sg bS bB v' gJ (W'.setCell ⟨bB,0,none⟩ v')/\BQ w.heap.size W (W'.setCell ⟨bB,0,none⟩ v')/\KeepsFrom B W (W'.setCell ⟨bB,0,none⟩ v')/\W'.frozen? ⟨bB,0,none⟩=false/\(∃ u,W'.cell? ⟨bB,0,none⟩=some u):=by
 have hk:∀ g t cs,eW W g t cs->t≠5->W'.heap[g]? = W.heap[g]? :=fun g t cs b hne=>hg.block g b.lt (fun e=>iT S.rb.own b (Ne.symm hne) (by first|exact e|exact e.symm));have bb1:=S.bb.same (hk _ _ _ S.bb (by decide));have jQ:∀ g,g≠bB->(W'.setCell ⟨bB,0,none⟩ v').heap[g]? = W'.heap[g]? :=fun g hne=>Below.heap_setCell W' ⟨bB,0,none⟩ v' g hne;have hbase:Below w.heap.size w (W'.setCell ⟨bB,0,none⟩ v'):=C.base.setCell (p:=⟨bB,0,none⟩) hB _;have hsz:(W'.setCell ⟨bB,0,none⟩ v').heap.size=W'.heap.size:=by simp[ay]
 have hne:∀ g t cs,eW W g t cs->t≠22->g≠bB:=fun g t cs b h e=>by
  subst e;have h1:=S.bb;unfold eW at b h1;rw[b]at h1;injection h1 with h1;injection h1 with _ h1;exact h h1
 refine⟨⟨⟨fE C.own (fun k p_=>jQ k (fun e=>?_)),hbase,C.hB,by rw[hsz];exact C.top⟩,bb1.apg 0 v',?_⟩,⟨hg.os,hg.tape,hg.output,by rw[hsz];exact hg.size,fun k p_=>(hbase.block k p_).trans (S.rb.base.block k p_).symm,fun k cs t h1 h2 b=>b.same ((jQ k (hne _ _ _ b h2)).trans (hk _ _ _ b h1))⟩,⟨by rw[hsz];exact hg.size,fun k o p_ ho hc=>?_⟩,bb1.frozen 0,⟨_,bb1.cell 0⟩⟩
 .subst e;exact iT C.own bb1 (by decide) p_
 .exact S.bx.same ((jQ _ (hne _ _ _ S.bx (by decide))).trans (hk _ _ _ S.bx (by decide)))
 .have h1:k≠bB:=fun e=>by
   subst e;have h1:=S.bb;unfold eW at h1;rw[ho]at h1;injection h1 with h1;subst h1;cases hc
  refine (jQ k h1).trans ((hg.block k (fA ho) (fun e=>Dr S.rb.own ho (fun cs e2=>by subst e2;cases hc) (by first|exact e|exact e.symm))).trans ho)
structure OB (w:World) (sg bS bB B0:Nat) (Ws:World) (b5:Nat) (X:Hd) (v:Value) (bs:List Nat) (W:World):Prop where
 st:On w sg bS bB v bs W
 kp:BQ w.heap.size Ws W
 kf:KeepsFrom B0 Ws W
 hd:eW W b5 75 X.cells
variable {B0 b5:Nat}{Ws:World}{X:Hd}
theorem OB.below (S:OB w sg bS bB B0 Ws b5 X v bs W)(hb:Below W.heap.size W W'):OB w sg bS bB B0 Ws b5 X v bs W':=
 ⟨S.st.below hb,S.kp.trans (.apa hb (ag S.st.rb.hB S.st.rb.top)),S.kf.trans (KeepsFrom.aqJ hb),S.hd.below hb S.hd.lt⟩
theorem OB.app (S:OB w sg bS bB B0 Ws b5 X v bs W)(hB:w.heap.size<=bB)(C:RB w W' w.heap.size v' gJ)(hg:W.grownBy W' v.ownBlock):OB w sg bS bB B0 Ws b5 X v' gJ (W'.setCell ⟨bB,0,none⟩ v'):=by
 obtain⟨h1,h2,h3,_⟩:=S.st.app (B:=B0) hB C hg;exact⟨h1,S.kp.trans h2,S.kf.trans h3,h2.cells _ _ _ (by decide) (by decide) S.hd⟩
theorem OB.cells (S:OB w sg bS bB B0 Ws b5 X v bs W):W.cell? ⟨bB,0,none⟩=some v/\W.cell? ⟨bS,0,none⟩=some (.pointer (some ⟨sg,0,none⟩))/\W.cell? ⟨b5,0,none⟩=some (.int .i64 X.size)/\W.cell? ⟨b5,1,none⟩=some (.int .i64 X.fmt)/\W.cell? ⟨b5,2,none⟩=some (.int .i64 X.spare)/\W.cell? ⟨b5,3,none⟩=some (.int .u32 X.cls)/\W.cell? ⟨b5,4,none⟩=some (.int .u32 X.ser):=
 ⟨S.st.bb.cell 0,S.st.bx.cell 0,S.hd.cell 0,S.hd.cell 1,S.hd.cell 2,S.hd.cell 3,S.hd.cell 4⟩
end
structure tQ (sg mb pg bS bB b5:Nat) (L:List Nat) (X:Hd) (v:Value) (W:World):Prop where
 cB:W.cell? ⟨bB,0,none⟩=some v
 cS:W.cell? ⟨bS,0,none⟩=some (.pointer (some ⟨sg,0,none⟩))
 g0:W.cell? ⟨sg,0,none⟩=some (.pointer (some ⟨pg,0,none⟩))
 g1:W.cell? ⟨sg,1,none⟩=some (.map (some mb))
 x0:W.cell? ⟨b5,0,none⟩=some (.int .i64 X.size)
 x1:W.cell? ⟨b5,1,none⟩=some (.int .i64 X.fmt)
 x2:W.cell? ⟨b5,2,none⟩=some (.int .i64 X.spare)
 x3:W.cell? ⟨b5,3,none⟩=some (.int .u32 X.cls)
 x4:W.cell? ⟨b5,4,none⟩=some (.int .u32 X.ser)
 lk:(Instr.lookup 143 (.map (some mb)) (.int .u32 (X.cls:Int)) false).run Tryz.prog W= .ok (.int .u32 (kt L X.cls:Nat)) W
section
variable {w W W':World}{sg mb pg bS bB B0 b5:Nat}{Ws:World}{v v':Value}{bs gJ:List Nat}{X:Hd}{L:List Nat}
theorem OB.oc (O:OB w sg bS bB B0 Ws b5 X v bs W)(S:td w sg mb pg L)(uG:L.Nodup)(hc:X.cls<4294967296):tQ sg mb pg bS bB b5 L X v W:=by
 obtain⟨h0,h1,h2,h3,h4,h5,h6⟩:=O.cells;have S':=S.below O.st.rb.base;exact⟨h0,h1,S'.box.cell 0,S'.box.cell 1,h2,h3,h4,h5,h6,S'.map.look uG wY hc⟩
theorem OB.ocm (O:OB w sg bS bB B0 Ws b5 X v bs W)(S:td w sg mb pg L)(uG:L.Nodup)(hc:X.cls<4294967296)(C:RB w W' w.heap.size v' gJ)(hg:W.grownBy W' v.ownBlock):tQ sg mb pg bS bB b5 L X v W':=by
 have hk:∀ g t cs,eW W g t cs->t≠5->eW W' g t cs:=fun g t cs b hne=>b.same (hg.block g b.lt (fun e=>iT O.st.rb.own b (Ne.symm hne) (by first|exact e|exact e.symm)));have S':=S.below C.base;have hd:=hk _ _ _ O.hd (by decide);exact⟨(hk _ _ _ O.st.bb (by decide)).cell 0,(hk _ _ _ O.st.bx (by decide)).cell 0,S'.box.cell 0,S'.box.cell 1,hd.cell 0,hd.cell 1,hd.cell 2,hd.cell 3,hd.cell 4,S'.map.look uG wY hc⟩
theorem OB.room (O:OB w sg bS bB B0 Ws b5 X v bs W)(C:RB w W' w.heap.size v' gJ)(hg:W.grownBy W' v.ownBlock):W'.frozen? ⟨bB,0,none⟩=false/\W'.cell? ⟨bB,0,none⟩=some v:=by
 have hk:∀ g t cs,eW W g t cs->t≠5->eW W' g t cs:=fun g t cs b hne=>b.same (hg.block g b.lt (fun e=>iT O.st.rb.own b (Ne.symm hne) (by first|exact e|exact e.symm)));have h:=hk _ _ _ O.st.bb (by decide);exact⟨h.frozen 0,h.cell 0⟩
end
end
section
open Go.RowKit
attribute [local go_sem] ar
def Sw (w:World)(B g:Nat)(us:List Wr):Prop:=∀ u∈us,eQ w B 1 u.A u.fs.length (eN u.fs)/\(0<u.fs.length->∀ a,u.A=some a->a.block≠g)
theorem Sw.keep {w w':World}{B g:Nat}{us:List Wr}(h:Sw w B g us)(hk:∀ k,k<B->k≠g->w'.heap[k]? = w.heap[k]?):Sw w' B g us:=fun u hu=>by
 obtain⟨h1,h2⟩:=h u hu;refine⟨⟨h1.1,fun hn=>?_⟩,h2⟩;obtain⟨a,ha,hb,hc⟩:=h1.2 hn;exact⟨a,ha,hb,fun j v hv=>(ax (a:=a.add j) (by rw[gi];exact hk a.block hb (h2 hn a ha))).trans (hc j v hv)⟩
def wB (us:List Wr)(k:Nat):List Wr:=(List.range us.length).map fun j=>if j<k then { (us.getD j default) with pl:=fL ((us.map Wr.th).take j) } else us.getD j default
theorem ld (us:List Wr)(k:Nat):(wB us k).length=us.length:=by simp[wB]
theorem sR (us:List Wr)(k j:Nat)(hj:j<us.length):(wB us k).getD j default=if j<k then { (us.getD j default) with pl:=fL ((us.map Wr.th).take j) } else us.getD j default:=by
 unfold wB;rw[af,List.getElem?_map,List.getElem?_range hj];rfl
theorem RZ (us:List Wr):wB us 0=us:=by
 apply aA
 .simp[wB]
 .intro i h1 h2;simp[wB,af,ae h2]
theorem UZ (us:List Wr)(k:Nat)(hk:k<us.length):(wB us k).set k { ((wB us k).getD k default) with pl:=fL ((us.map Wr.th).take k) }=wB us (k+1):=by
 rw[sR us k k hk,if_neg (by omega)];apply aA
 .simp[wB]
 .intro i h1 h2;rw[ld]at h2;rw[List.getElem_set];have e1:(wB us (k+1))[i]'(by rw[ld];exact h2)=(wB us (k+1)).getD i default:=by rw[af,ae (by rw[ld];exact h2)];rfl
  have e2:(wB us k)[i]'(by rw[ld];exact h2)=(wB us k).getD i default:=by rw[af,ae (by rw[ld];exact h2)];rfl
  rw[e1,e2,sR us (k+1) i h2,sR us k i h2];by_cases hik:k=i
  .subst hik;rw[if_pos rfl,if_pos (by omega)]
  .rw[if_neg hik];by_cases hlt:i<k
   .rw[if_pos hlt,if_pos (by omega)]
   .rw[if_neg hlt,if_neg (by omega)]
theorem Ys (us:List Wr)(k:Nat):(wB us k).map Wr.th=us.map Wr.th:=by
 apply aA
 .simp[wB]
 .intro i h1 h2;have hi:i<us.length:=by simpa using h2
  rw[aH,aH];have e1:(wB us k)[i]'(by rw[ld];exact hi)=(wB us k).getD i default:=by rw[af,ae (by rw[ld];exact hi)];rfl
  rw[e1,sR us k i hi,af,ae hi];split <;> rfl
theorem UY {us:List Wr}{k:Nat}{u:Wr}(h:u∈wB us k):∃ u',u'∈us/\u.x=u'.x/\u.A=u'.A/\u.c=u'.c/\u.fs=u'.fs:=by
 unfold wB at h;obtain⟨j,hj,rfl⟩:=List.mem_map.1 h;have hj':=List.mem_range.1 hj;refine⟨us.getD j default,by rw[af,ae hj'];exact List.getElem_mem hj',?_⟩;split <;> exact⟨rfl,rfl,rfl,rfl⟩
theorem Sw.usK {w:World}{B g:Nat}{us:List Wr}(h:Sw w B g us)(k:Nat):Sw w B g (wB us k):=fun u hu=>by
 obtain⟨u',h1,h2,h3,h4,h5⟩:=UY hu;rw[h3,h5];exact h u' h1
structure ii (Bg:Nat) (w0 wr:World) (b4 b5 bf b13 b8 g:Nat) (A:Option Addr) (c:Nat) (us:List Wr) (last:Nat) (fine:Bool) (Bw:Nat) (vw:Value) (ws:List Nat) (vr:Value) (rs:List Nat):Prop where
 v:aaQ wr b5 bf b13 A c us fine
 box:eW wr b4 130 #[.int .i64 2,.int .i64 0,.int .u32 last,vw,vr]
 res:eW wr b8 130 #[.int .i64 0,.int .i64 0,.int .u32 0,.slice none 0 0,.slice none 0 0]
 wo:wr.ownsRow Bw 32 1 vw ws.length (eN ws)
 ro:wr.ownsRow Bw 54 1 vr rs.length (eN rs)
 fr:Below Bg w0 wr
 apU:Sw wr w0.heap.size g us
 l4:w0.heap.size<=b4/\b4<Bw
 l5:w0.heap.size<=b5/\b5<Bw
 lf:w0.heap.size<=bf/\bf<Bw
 l13:w0.heap.size<=b13/\b13<Bw
 l8:w0.heap.size<=b8/\b8<Bw
 lg:g<w0.heap.size
 lB:Bg<=g
 eg:0<us.length->A=some ⟨g,0,none⟩
 n48:b4≠b8
 top:Bw<=wr.heap.size
 kept:∀ k,k<w0.heap.size->k≠g->wr.heap[k]? = w0.heap[k]?
section
variable {Bg b4 b5 bf b13 b8 g c last Bw:Nat}{w0 wr w':World}{A:Option Addr}{us:List Wr}{fine KI:Bool}{vw vr v':Value}{ws rs:List Nat}
theorem ii.re (S:ii Bg w0 wr b4 b5 bf b13 b8 g A c us last fine Bw vw ws vr rs){vw' vr':Value}{ws' rs':List Nat}(hos:w'.os=wr.os)(ht:w'.tape=wr.tape)(ho:w'.output=wr.output)(hsz:wr.heap.size<=w'.heap.size)
 (hk:∀ k,k<Bw->k≠bf->k≠b4->w'.heap[k]? = wr.heap[k]?)(hf:eW w' bf 4 #[.bool KI])(hb:eW w' b4 130 #[.int .i64 2,.int .i64 0,.int .u32 last,vw',vr'])
 (hw:w'.ownsRow Bw 32 1 vw' ws'.length (eN ws'))(hr:w'.ownsRow Bw 54 1 vr' rs'.length (eN rs')):ii Bg w0 w' b4 b5 bf b13 b8 g A c us last KI Bw vw' ws' vr' rs':=by
 have n5f:b5≠bf:=fun e=>by have h1:=S.v.b.aqT;have h2:=S.v.b.fn;unfold eW at h1 h2;rw[e,h2]at h1;injection h1 with h1;injection h1 with _ h1;exact absurd h1 (by decide)
 have n54:b5≠b4:=fun e=>by have h1:=S.v.b.aqT;have h2:=S.box;unfold eW at h1 h2;rw[e,h2]at h1;injection h1 with h1;injection h1 with _ h1;exact absurd h1 (by decide)
 have ahY:b13≠bf:=fun e=>by have h1:=S.v.cl;have h2:=S.v.b.fn;unfold eW at h1 h2;rw[e,h2]at h1;injection h1 with h1;injection h1 with _ h1;exact absurd h1 (by decide)
 have n134:b13≠b4:=fun e=>by have h1:=S.v.cl;have h2:=S.box;unfold eW at h1 h2;rw[e,h2]at h1;injection h1 with h1;injection h1 with _ h1;exact absurd h1 (by decide)
 have n8f:b8≠bf:=fun e=>by have h1:=S.res;have h2:=S.v.b.fn;unfold eW at h1 h2;rw[e,h2]at h1;injection h1 with h1;injection h1 with _ h1;exact absurd h1 (by decide)
 have l4:=S.l4;have lf:=S.lf;have lg:=S.lg
 refine⟨⟨⟨S.v.b.aqT.same (hk _ S.l5.2 n5f n54),hf,fun h0=>?_,S.v.b.pl,S.v.b.top,S.v.b.len⟩,S.v.cl.same (hk _ S.l13.2 ahY n134)⟩,hb,S.res.same (hk _ S.l8.2 n8f (Ne.symm S.n48)),hw,hr,⟨hos.trans S.fr.os,ht.trans S.fr.tape,ho.trans S.fr.output,ag S.fr.size hsz,fun k hkB=>(hk k (by have:=S.lB;omega) (by have:=S.lB;omega) (by have:=S.lB;omega)).trans (S.fr.block k hkB)⟩,
  S.apU.keep (fun k h1 h2=>hk k (by omega) (by omega) (by omega)),S.l4,S.l5,S.lf,S.l13,S.l8,S.lg,S.lB,S.eg,S.n48,ag S.top hsz,fun k h1 h2=>(hk k (by omega) (by omega) (by omega)).trans (S.kept k h1 h2)⟩
 obtain⟨g',h1,h2⟩:=S.v.b.row h0;have e:=S.eg h0;rw[h1]at e;injection e with e;injection e with e;subst e;exact⟨g',h1,h2.same (hk g' (by omega) (by omega) (by omega))⟩
theorem ii.below (S:ii Bg w0 wr b4 b5 bf b13 b8 g A c us last fine Bw vw ws vr rs)(h:Below wr.heap.size wr w'):ii Bg w0 w' b4 b5 bf b13 b8 g A c us last fine Bw vw ws vr rs:=
 S.re h.os h.tape h.output h.size (fun k hk _ _=>h.block k (ak hk S.top)) (S.v.b.fn.below h S.v.b.fn.lt) (S.box.below h S.box.lt) (fE S.wo (fun k hk=>h.block k (S.wo.lt k hk).2)) (fE S.ro (fun k hk=>h.block k (S.ro.lt k hk).2))
theorem ii.aqF (S:ii Bg w0 wr b4 b5 bf b13 b8 g A c us last fine Bw vw ws vr rs)(hf:eW w' bf 4 #[.bool KI])(F:kw bf wr w'):ii Bg w0 w' b4 b5 bf b13 b8 g A c us last KI Bw vw ws vr rs:=by
 have nf4:b4≠bf:=fun e=>by have h1:=S.box;have h2:=S.v.b.fn;unfold eW at h1 h2;rw[e,h2]at h1;injection h1 with h1;injection h1 with _ h1;exact absurd h1 (by decide)
 exact S.re F.os F.tape F.output F.size (fun k hk h1 _=>F.same k (ak hk S.top) h1) hf (S.box.fr1 F nf4) (fE S.wo (fun k hk=>F.same k (S.wo.lt k hk).2 (by have:=(S.wo.lt k hk).1;have:=S.lf;omega))) (fE S.ro (fun k hk=>F.same k (S.ro.lt k hk).2 (by have:=(S.ro.lt k hk).1;have:=S.lf;omega)))
theorem vP {w:World}{base:Nat}{e e':TypeId}{v v2:Value}{n n2 k:Nat}{xs ys:List Value}(h:w.ownsRow base e 1 v n xs)(h2:w.ownsRow base e' 1 v2 n2 ys)(hne:e≠e')(hk:v.ownBlock=some k):v2.ownBlock≠some k:=by
 intro hk2;rcases h.2 with ⟨h1,_⟩|⟨g1,cap,cur,rfl,_,h3,_⟩
 .rw[h1]at hk;cases hk
 .rcases h2.2 with ⟨h1,_⟩|⟨g2,aa3,alx,rfl,_,h4,_⟩
  .rw[h1]at hk2;cases hk2
  .injection hk with hk;injection hk2 with hk2;simp only at hk hk2;rw[hk]at h3;rw[hk2,h3]at h4;injection h4 with h4;injection h4 with _ h4;exact hne h4
theorem ii.aqm {ys:List Nat}{m:Nat}(S:ii Bg w0 wr b4 b5 bf b13 b8 g A c us last fine Bw vw ws vr rs)(hm:ys.length=m)(ho:w'.ownsRow Bw 32 1 v' (ws.length+m) (eN ws++eN ys))(hg:wr.grownBy w' vw.ownBlock):
 ii Bg w0 (w'.setCell ⟨b4,3,none⟩ v') b4 b5 bf b13 b8 g A c us last fine Bw v' (ws++ys) vr rs:=by
 have hs:∀ k,k<wr.heap.size->vw.ownBlock≠some k->w'.heap[k]? = wr.heap[k]? :=fun k h1 h2=>hg.block k h1 (fun e=>h2 (by first|exact e|exact e.symm));have hB:∀ k,k<Bw->w'.heap[k]? = wr.heap[k]? :=fun k h1=>hs k (ak h1 S.top) (fun e=>by have:=(S.wo.lt k e).1;omega);have jQ:∀ k,k≠b4->(w'.setCell ⟨b4,3,none⟩ v').heap[k]? = w'.heap[k]? :=fun k h=>Below.heap_setCell w' ⟨b4,3,none⟩ v' k h;have hsz:(w'.setCell ⟨b4,3,none⟩ v').heap.size=w'.heap.size:=by simp[ay]
 have nf4:bf≠b4:=fun e=>by have h1:=S.box;have h2:=S.v.b.fn;unfold eW at h1 h2;rw[e,h1]at h2;injection h2 with h2;injection h2 with _ h2;exact absurd h2 (by decide)
 have l4:=S.l4;refine S.re hg.os hg.tape hg.output (by rw[hsz];exact hg.size) (fun k h1 _ h3=>(jQ k h3).trans (hB k h1)) ((S.v.b.fn.same (hB _ S.lf.2)).same (jQ _ nf4)) ?_ ?_ ?_
 .exact (S.box.same (hB _ l4.2)).apg 3 v'
 .have h1:=fE (w':=w'.setCell ⟨b4,3,none⟩ v') ho (fun k e=>jQ k (by have:=(ho.lt k e).1;omega));rw[ah,hm,show eN (ws++ys)=eN ws++eN ys by simp[eN]];exact h1
 .exact fE S.ro (fun k e=>(jQ k (by have:=(S.ro.lt k e).1;omega)).trans (hs k (S.ro.lt k e).2 (vP S.ro S.wo (by decide) e)))
theorem ii.appR {ys:List Nat}{m:Nat}(S:ii Bg w0 wr b4 b5 bf b13 b8 g A c us last fine Bw vw ws vr rs)(hm:ys.length=m)(ho:w'.ownsRow Bw 54 1 v' (rs.length+m) (eN rs++eN ys))(hg:wr.grownBy w' vr.ownBlock):
 ii Bg w0 (w'.setCell ⟨b4,4,none⟩ v') b4 b5 bf b13 b8 g A c us last fine Bw vw ws v' (rs++ys):=by
 have hs:∀ k,k<wr.heap.size->vr.ownBlock≠some k->w'.heap[k]? = wr.heap[k]? :=fun k h1 h2=>hg.block k h1 (fun e=>h2 (by first|exact e|exact e.symm));have hB:∀ k,k<Bw->w'.heap[k]? = wr.heap[k]? :=fun k h1=>hs k (ak h1 S.top) (fun e=>by have:=(S.ro.lt k e).1;omega);have jQ:∀ k,k≠b4->(w'.setCell ⟨b4,4,none⟩ v').heap[k]? = w'.heap[k]? :=fun k h=>Below.heap_setCell w' ⟨b4,4,none⟩ v' k h;have hsz:(w'.setCell ⟨b4,4,none⟩ v').heap.size=w'.heap.size:=by simp[ay]
 have nf4:bf≠b4:=fun e=>by have h1:=S.box;have h2:=S.v.b.fn;unfold eW at h1 h2;rw[e,h1]at h2;injection h2 with h2;injection h2 with _ h2;exact absurd h2 (by decide)
 have l4:=S.l4;refine S.re hg.os hg.tape hg.output (by rw[hsz];exact hg.size) (fun k h1 _ h3=>(jQ k h3).trans (hB k h1)) ((S.v.b.fn.same (hB _ S.lf.2)).same (jQ _ nf4)) ?_ ?_ ?_
 .exact (S.box.same (hB _ l4.2)).apg 4 v'
 .exact fE S.wo (fun k e=>(jQ k (by have:=(S.wo.lt k e).1;omega)).trans (hs k (S.wo.lt k e).2 (vP S.wo S.ro (by decide) e)))
 .have h1:=fE (w':=w'.setCell ⟨b4,4,none⟩ v') ho (fun k e=>jQ k (by have:=(ho.lt k e).1;omega));rw[ah,hm,show eN (rs++ys)=eN rs++eN ys by simp[eN]];exact h1
variable {b16:Nat}{cs:Array Value}
theorem ii.aqS (S:ii Bg w0 wr b4 b5 bf b13 b8 g A c us last fine Bw vw ws vr rs)(b:eW wr b16 303 cs)(F:kw bf wr w'):eW w' b16 303 cs:=
 b.fr1 F (fun e=>by have h2:=S.v.b.fn;unfold eW at b h2;rw[e,h2]at b;injection b with b;injection b with _ b;exact absurd b (by decide))
theorem ii.aqH (S:ii Bg w0 wr b4 b5 bf b13 b8 g A c us last fine Bw vw ws vr rs)(b:eW wr b16 303 cs)(hg:wr.grownBy w' vw.ownBlock):eW (w'.setCell ⟨b4,3,none⟩ v') b16 303 cs:=by
 have h1:b16≠b4:=fun e=>by have h2:=S.box;unfold eW at b h2;rw[e,h2]at b;injection b with b;injection b with _ b;exact absurd b (by decide)
 have h2:eW w' b16 303 cs:=b.same (hg.block b16 b.lt (fun e=>iT S.wo b (by decide) (by first|exact e|exact e.symm)));exact h2.same (Below.heap_setCell w' ⟨b4,3,none⟩ v' b16 h1)
theorem ii.room (S:ii Bg w0 wr b4 b5 bf b13 b8 g A c us last fine Bw vw ws vr rs)(hg:wr.grownBy w' vw.ownBlock):eW w' b4 130 #[.int .i64 2,.int .i64 0,.int .u32 last,vw,vr]:=
 S.box.same (hg.block b4 S.box.lt (fun e=>iT S.wo S.box (by decide) (by first|exact e|exact e.symm)))
theorem ii.aqt (S:ii Bg w0 wr b4 b5 bf b13 b8 g A c us last fine Bw vw ws vr rs)(hg:wr.grownBy w' vr.ownBlock):eW w' b4 130 #[.int .i64 2,.int .i64 0,.int .u32 last,vw,vr]:=
 S.box.same (hg.block b4 S.box.lt (fun e=>iT S.ro S.box (by decide) (by first|exact e|exact e.symm)))
theorem ii.oSet (S:ii Bg w0 wr b4 b5 bf b13 b8 g A c us last fine Bw vw ws vr rs)(b:eW wr b16 303 cs)(hB:Bw<=b16)(i:Nat)(u:Value):ii Bg w0 (wr.setCell ⟨b16,i,none⟩ u) b4 b5 bf b13 b8 g A c us last fine Bw vw ws vr rs:=by
 have jQ:∀ k,k≠b16->(wr.setCell ⟨b16,i,none⟩ u).heap[k]? = wr.heap[k]? :=fun k h=>Below.heap_setCell wr ⟨b16,i,none⟩ u k h;have hsz:(wr.setCell ⟨b16,i,none⟩ u).heap.size=wr.heap.size:=by simp[ay]
 have lf:=S.lf;have l4:=S.l4
 exact S.re rfl rfl rfl (by rw[hsz];exact aj _) (fun k hk _ _=>jQ k (by omega)) (S.v.b.fn.same (jQ _ (by omega))) (S.box.same (jQ _ (by omega)))
  (fE S.wo (fun k hk=>jQ k (fun e=>iT S.wo b (by decide) (e ▸ hk)))) (fE S.ro (fun k hk=>jQ k (fun e=>iT S.ro b (by decide) (e ▸ hk))))
theorem oN {w:World}{g n:Nat}{A:Option Addr}{xs:List Value}(h:eQ w w.heap.size 1 A n xs)(hne:0<n->∀ a,A=some a->a.block≠g)(x0 x1 x2 x3 x4:Value):
 eQ (((((w.setCell ⟨g,0,none⟩ x0).setCell ⟨g,1,none⟩ x1).setCell ⟨g,2,none⟩ x2).setCell ⟨g,3,none⟩ x3).setCell ⟨g,4,none⟩ x4) (((((w.setCell ⟨g,0,none⟩ x0).setCell ⟨g,1,none⟩ x1).setCell ⟨g,2,none⟩ x2).setCell ⟨g,3,none⟩ x3).setCell ⟨g,4,none⟩ x4).heap.size 1 A n xs:=
 un (un (un (un (un h hne) hne) hne) hne) hne
end
end
end Go.Proofs.YtlkahgagmfhdaaaGreatDoor
