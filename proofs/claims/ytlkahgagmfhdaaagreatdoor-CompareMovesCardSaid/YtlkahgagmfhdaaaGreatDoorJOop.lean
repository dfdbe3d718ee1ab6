import Derived.Test.YtlkahgagmfhdaaaGreatDoorJMapIs
import Derived.BigQuiet
import Derived.WalkLawsBesides
set_option linter.unusedVariables false
set_option linter.unusedSimpArgs false
set_option linter.unusedSectionVars false
open List renaming getD_eq_getElem?_getD→ae,flatMap_cons→af,prefix_refl→ag,getElem?_eq_getElem→ah,map_append→ak,getElem?_append_left→aq,idxOf_append→ar,cons_append→au,getElem?_eq_none→aw,mem_cons_of_mem→ax,prefix_append→aB,idxOf_lt_length_of_mem→aC,mem_cons_self→aD,getElem?_map→aF,getElem_mem→aG,nil_append→aH,append_eq_nil_iff→aI,nodup_nil→aJ,range→aK,mem_map→aL,append_assoc→aM,flatMap_nil→aN,ext_getElem→aO,mem_append→aP,length_map→aR,idxOf_cons→aS,map_cons→aT,mem_cons→aU,finRange→aV,map_map→aW
open Nat renaming le_refl→ai,lt_or_ge→aj,le_of_lt→ay,zero_le→aA,strongRecOn→aQ
open List.cons renaming injEq→az
namespace Go.Proofs.YtlkahgagmfhdaaaGreatDoor
section
open Go.RowKit
def eR (o:Nat):Nat:=if o=0 then 0 else if o%2=1 then 1 else 2
theorem xW (v:Nat)(h:v<4294967296):bits .and .u32 (v:Int) 1=((v%2:Nat):Int):=by
 rw[u32_and _ _ (by omega) (by omega) (by omega) (by omega)];simp
theorem nQ (o:Nat)(ho:o<4294967296)(w:World):
 Calls Tryz.prog 82 #[.int .u32 o] w fun e w'=>e= .returned (.int .i64 (eR o))/\w=w':=by
 have h1:=xW o ho;by_cases h0:o=0
 .subst h0;go_enter Tryz.func82,Tryz.ntmps82;go_wp2_with fail;go_ret;exact⟨rfl,rfl⟩
 .have hb:((o:Int) == 0)=false:=by simpa using h0
  by_cases h2:o%2=1
  .have hk:eR o=1:=(by simp[eR,h0,h2]);rw[h2]at h1;have HK:=aa hk;clear hk h2;go_enter Tryz.func82,Tryz.ntmps82;go_wp2_with fail;go_ret;exact⟨by rw[HK.o];rfl,rfl⟩
  .have hk:eR o=2:=(by simp[eR,h0,h2]);rw[show o%2=0 by omega]at h1;have HK:=aa hk;clear hk h2;go_enter Tryz.func82,Tryz.ntmps82;go_wp2_with fail;go_ret;exact⟨by rw[HK.o];rfl,rfl⟩
def kH (o:Nat):Bool:=decide (eR o=2)
theorem vM (o:Nat):kH o=true↔o≠0/\o%2=0:=by
 unfold kH eR;by_cases h:o=0
 .simp[h]
 .by_cases h2:o%2=1
  .simp[h,h2]
  .simp[h,h2];omega
def nP (o:Nat):Value:=.tuple (if kH o then #[.int .i64 (o/2:Nat),.int .i64 0] else #[.int .i64 0,.int .i64 3])
theorem pq (o:Nat)(ho:o<4294967296)(w:World):
 Calls Tryz.prog 165 #[.int .u32 o] w fun e w'=>e= .returned (nP o)/\w=w':=by
 by_cases hk:eR o=2
 .have hn:((((eR o:Nat):Int)) == 2)=true:=by rw[hk];rfl
  go_enter Tryz.func165,Tryz.ntmps165;go_wp2_with fail;refine (nQ o ho _).mono ?_;rintro e w' ⟨rfl,rfl⟩;rw[hk];go_wp2_with fail;go_ret2;exact⟨by simp[nP,kH,hk],rfl⟩
 .have hn:((((eR o:Nat):Int)) != 2)=true:=by simp;omega
  have hf:kH o=false:=by simp[kH,hk]
  have HF:=aa hf;clear hf;generalize CQ:eR o=k at hn hk;have Vd:=aa CQ;clear CQ;go_enter Tryz.func165,Tryz.ntmps165;go_wp2_with fail;refine (nQ o ho _).mono ?_;rintro e w' ⟨rfl,rfl⟩;rw[Vd.o];go_wp2_with fail;go_ret2;exact⟨by simp[nP,HF.o],rfl⟩
def HM.isB (h:HM)(o:Nat):Bool:=kH o && h.starts.getD (o/2) false
theorem HM.ap5 {h:HM}{o:Nat}(hi:h.isB o=true):o/2<h.starts.length:=by
 unfold HM.isB at hi;simp only[Bool.and_eq_true]at hi;rcases aj (o/2) h.starts.length with h1|h1
 .exact h1
 .rw[ae,aw h1]at hi;simp at hi
theorem kg {w:World}{p:HP}{h:HM}(H:fO w p h)(hs:0<h.size)(hs2:h.size<=1048576):
 Calls Tryz.prog 83 #[ptr p.g] w fun e w'=>e= .returned (.bool true)/\w=w':=by
 have c3:=H.c3;have h1:decide ((h.size:Int)>0)=true:=by simp;omega
 unfold ptr;go_enter Tryz.func83,Tryz.ntmps83;go_wp2_with fail;go_ret;exact⟨by simp,rfl⟩
theorem wT {w:World}{p:HP}{h:HM}(H:fO w p h)(f:h.Fit)(o:Nat)(ho:o<4294967296):
 Calls Tryz.prog 85 #[ptr p.g,.int .u32 o] w fun e w'=>e= .returned (.bool (h.isB o))/\w=w':=by
 have hm:=kg H (by have:=f.lo;omega) f.hi;have HM':=aa hm;clear hm;have c1:=H.c1;have hlen:=f.marks;have hroom:=f.room;have Br:=f.hi;by_cases hk:kH o=true
 .have hi:nP o= .tuple #[.int .i64 (o/2:Nat),.int .i64 0]:=by simp[nP,hk]
  by_cases hl:o/2<h.starts.length
  .have hcell:=H.mark hl;have HF:=aa (show h.isB o=h.starts.getD (o/2) false by simp[HM.isB,hk]);generalize h.starts.getD (o/2) false=b at*;generalize hq:o/2=q at*;have HI:=aa hi;clear hi hq hk;unfold ptr;have hlt:(q:Int)<(h.starts.length:Int):=(by omega);go_enter Tryz.func85,Tryz.ntmps85;go_wp2_with fail;refine (pq o ho _).mono ?_;rintro e w' ⟨rfl,rfl⟩;rw[HI.o];go_wp2_with fail;refine HM'.o.mono ?_;rintro e w' ⟨rfl,rfl⟩;go_wp2_with fail;go_ret;exact⟨by rw[HF.o];rfl,rfl⟩
  .have HF:=aa (show h.isB o=false by rw[HM.isB,ae,aw (by omega)];simp);generalize hq:o/2=q at*;have HI:=aa hi;clear hi hq hk;unfold ptr;have hlt:(h.starts.length:Int)<=(q:Int):=(by omega);go_enter Tryz.func85,Tryz.ntmps85;go_wp2_with fail;refine (pq o ho _).mono ?_;rintro e w' ⟨rfl,rfl⟩;rw[HI.o];go_wp2_with fail;refine HM'.o.mono ?_;rintro e w' ⟨rfl,rfl⟩;go_wp2_with fail;go_ret;exact⟨by rw[HF.o];rfl,rfl⟩
 .have HI:=aa (show nP o= .tuple #[.int .i64 0,.int .i64 3] by simp[nP,hk]);have HF:=aa (show h.isB o=false by simp[HM.isB,hk]);clear hk;unfold ptr;go_enter Tryz.func85,Tryz.ntmps85;go_wp2_with fail;refine (pq o ho _).mono ?_;rintro e w' ⟨rfl,rfl⟩;rw[HI.o];go_wp2_with fail;go_ret;exact⟨by rw[HF.o];rfl,rfl⟩
def HM.apo (h:HM)(c:Nat):Bool:=decide (c=0) || h.isB c
def HM.apc (h:HM)(v:Nat):Bool:= !kH v || h.isB v
theorem CG {w:World}{p:HP}{h:HM}(H:fO w p h)(f:h.Fit)(o:Nat)(ho:o<4294967296):
 Calls Tryz.prog 204 #[ptr p.g,.int .u32 o] w fun e w'=>e= .returned (.bool (h.apo o))/\w=w':=by
 have HI:=aa (wT H f o ho);by_cases h0:o=0
 .subst h0;go_enter Tryz.func204,Tryz.ntmps204;go_wp2_with fail;go_ret;exact⟨by simp[HM.apo],rfl⟩
 .have hb:((o:Int) == 0)=false:=by simpa using h0
  have HF:=aa (show h.apo o=h.isB o by simp[HM.apo,h0]);generalize h.isB o=b at*;clear h0;go_enter Tryz.func204,Tryz.ntmps204;go_wp2_with fail;refine HI.o.mono ?_;rintro e w' ⟨rfl,rfl⟩;go_wp2_with fail;go_ret;exact⟨by rw[HF.o];rfl,rfl⟩
theorem xn {w:World}{p:HP}{h:HM}(H:fO w p h)(f:h.Fit)(o:Nat)(ho:o<4294967296):
 Calls Tryz.prog 161 #[ptr p.g,.int .u32 o] w fun e w'=>e= .returned (.bool (h.apc o))/\w=w':=by
 have HI:=aa (wT H f o ho);have HK:=aa (nQ o ho w);by_cases hk:eR o=2
 .have HF:=aa (show h.apc o=h.isB o by simp[HM.apc,kH,hk]);have hb:((2:Int) != 2)=false:=rfl;rw[hk]at HK;clear hk;generalize h.isB o=b at*;go_enter Tryz.func161,Tryz.ntmps161;go_wp2_with fail;refine HK.o.mono ?_;rintro e w' ⟨rfl,rfl⟩;go_wp2_with fail;refine HI.o.mono ?_;rintro e w' ⟨rfl,rfl⟩;go_wp2_with fail;go_ret;exact⟨by rw[HF.o];rfl,rfl⟩
 .have HF:=aa (show h.apc o=true by simp[HM.apc,kH,hk]);have hb:((eR o:Int) != 2)=true:=by simp;omega
  generalize eR o=k at*;clear hk;go_enter Tryz.func161,Tryz.ntmps161;go_wp2_with fail;refine HK.o.mono ?_;rintro e w' ⟨rfl,rfl⟩;go_wp2_with fail;go_ret;exact⟨by rw[HF.o];rfl,rfl⟩
theorem tR (g:Nat)(o:Nat)(ho:o<4294967296)(hk:kH o=true)(w:World):
 Calls Tryz.prog 98 #[ptr g,.int .u32 o] w fun e w'=>e= .returned (.int .i64 (o/2:Nat))/\w=w':=by
 have HI:=aa (show nP o= .tuple #[.int .i64 (o/2:Nat),.int .i64 0] by simp[nP,hk]);clear hk;go_enter Tryz.func98,Tryz.ntmps98;go_wp2_with fail;refine (pq o ho _).mono ?_;rintro e w' ⟨rfl,rfl⟩;rw[HI.o];go_wp2_with fail;go_ret;exact⟨by simp,rfl⟩
end
section
open Go.RowKit
structure Nd where
 o:Nat
 par:Int
 fld:Int
 deep:Nat
instance:Inhabited Nd:=⟨⟨0,0,0,0⟩⟩
def eL (l:List Nd):List Nat:=l.map (·.o)
def fK (l:List Nd)(o:Nat)(par fld:Int)(deep:Nat):List Nd:=if eR o=2/\o∉eL l then l++[⟨o,par,fld,deep⟩] else l
def iZ (l:List Nd)(x:Nat):Nat:=if x∈eL l then (eL l).idxOf x+1 else 0
theorem jd {l:List Nd}{o:Nat}{p f:Int}{d:Nat}(h:¬ (eR o=2/\o∉eL l)):fK l o p f d=l:=by unfold fK;rw[if_neg h]
theorem py {l:List Nd}{o:Nat}{p f:Int}{d:Nat}(h1:eR o=2)(h2:o∉eL l):fK l o p f d=l++[⟨o,p,f,d⟩]:=by unfold fK;rw[if_pos ⟨h1,h2⟩]
theorem fI (l:List Nd):(eL l).length=l.length:=by simp[eL]
theorem MW (l:List Nd)(o:Nat)(p f:Int)(d:Nat):l.length<=(fK l o p f d).length/\(fK l o p f d).length<=l.length+1:=by
 unfold fK;split <;> simp
theorem kr (l:List Nd)(o:Nat)(p f:Int)(d:Nat):l <+: fK l o p f d:=by
 unfold fK;split
 .exact aB _ _
 .exact ag _
theorem ov {l:List Nd}(h:(eL l).Nodup)(o:Nat)(p f:Int)(d:Nat):(eL (fK l o p f d)).Nodup:=by
 unfold fK;split
 .rename_i hc;unfold eL at*;rw[ak,List.nodup_append];refine⟨h,by simp,?_⟩;intro a ha b hb;simp at hb;subst hb;rintro rfl;exact hc.2 ha
 .exact h
theorem my {P:Nat->Prop}{l:List Nd}(h:∀ x∈eL l,P x){o:Nat}(ho:eR o=2->P o)(p f:Int)(d:Nat):∀ x∈eL (fK l o p f d),P x:=by
 unfold fK;split
 .rename_i hc;intro x hx;unfold eL at*;rw[ak]at hx;rcases aP.1 hx with hx|hx
  .exact h x hx
  .simp at hx;subst hx;exact ho hc.1
 .exact h
theorem mN {l:List Nd}{x:Nat}:0<iZ l x↔x∈eL l:=by
 unfold iZ;split <;> simp_all
theorem yF (l:List Nd)(x:Nat):iZ l x<=l.length:=by
 unfold iZ;split
 .rename_i h;have:=aC h;rw[fI]at this;omega
 .omega
theorem Q2 {l:List Nd}{o:Nat}(hn:o∉eL l)(p f:Int)(d:Nat):iZ (l++[⟨o,p,f,d⟩])=upd (iZ l) o (l.length+1):=by
 funext x
 unfold iZ upd eL at*;rw[ak];simp only[aT,List.map_nil,aP,aU,List.not_mem_nil,or_false];by_cases hx:x=o
 .subst hx;rw[if_pos (.inr rfl),if_pos rfl,ar,if_neg hn];simp
 .rw[if_neg hx];by_cases hm:x∈List.map (·.o) l
  .rw[if_pos (.inl hm),if_pos hm,ar,if_pos hm]
  .rw[if_neg (fun h=>h.elim hm hx),if_neg hm]
section
variable (nN:Nat->Nat)(nA:Nat->Nat->Nat)
def iX (fr:List Nat):Nat->List Nd
 | 0=>[]
 | k+1=>fK (iX fr k) (fr.getD k 0) (-1) (k:Int) 1
def j5 (l:List Nd)(i:Nat):Nat->List Nd
 | 0=>l
 | k+1=>fK (j5 l i k) (nA (l.getD i default).o k) (i:Int) ((k:Int)-1) ((l.getD i default).deep+1)
def h_ (l:List Nd)(i:Nat):List Nd:=j5 nA l i (nN (l.getD i default).o)
def nH:Nat->Nat->List Nd->Option (List Nd)
 | 0,_,_=>none
 | f+1,i,l=>if i<l.length then (if 65536<(h_ nN nA l i).length then none else nH f (i+1) (h_ nN nA l i)) else some l
def f_ (fr:List Nat):Option (List Nd):=if 65536<(iX fr fr.length).length then none else nH nN nA 65538 0 (iX fr fr.length)
theorem MV (l:List Nd)(i k:Nat):l <+: j5 nA l i k:=by
 induction k with
 | zero=>exact ag _
 | succ k ih=>exact ih.trans (kr _ _ _ _ _)
theorem uq (l:List Nd)(i:Nat):l <+: h_ nN nA l i:=MV nA l i _
theorem ue (l:List Nd)(i:Nat){j k:Nat}(h:j<=k):j5 nA l i j <+: j5 nA l i k:=by
 induction k with
 | zero => obtain rfl:j=0:=by omega
           exact ag _
 | succ k ih=>
   rcases aj j (k+1) with h1|h1
   .exact (ih (by omega)).trans (kr _ _ _ _ _)
   .obtain rfl:j=k+1:=(by omega);exact ag _
theorem Pu {f i:Nat}{l:List Nd}(h:¬ i<l.length):nH nN nA (f+1) i l=some l:=by unfold nH;rw[if_neg h]
theorem L8 {f i:Nat}{l:List Nd}(h:i<l.length)(hl:65536<(h_ nN nA l i).length):nH nN nA (f+1) i l=none:=by unfold nH;rw[if_pos h,if_pos hl]
theorem L9 {f i:Nat}{l:List Nd}(h:i<l.length)(hl:¬ 65536<(h_ nN nA l i).length):nH nN nA (f+1) i l=nH nN nA f (i+1) (h_ nN nA l i):=by
 conv=>lhs;unfold nH
 rw[if_pos h,if_neg hl]
end
theorem lI {P:Nat->Prop}(fr:List Nat)(h:∀ o∈fr,eR o=2->P o):∀ k,k<=fr.length->∀ x∈eL (iX fr k),P x
 | 0,_=>fun x hx=>by simp[iX,eL]at hx
 | k+1,hk=>my (lI fr h k (by omega)) (fun hk2=>h _ (by rw[ae,ah (by omega)];exact aG _) hk2) _ _ _
theorem ou (fr:List Nat):∀ k,(eL (iX fr k)).Nodup
 | 0=>aJ
 | k+1=>ov (ou fr k) _ _ _ _
theorem pw (nA:Nat->Nat->Nat){P:Nat->Prop}{l:List Nd}{i:Nat}(h0:∀ x∈eL l,P x)(m:Nat)(h:∀ k,k<m->eR (nA (l.getD i default).o k)=2->P (nA (l.getD i default).o k)):∀ k,k<=m->∀ x∈eL (j5 nA l i k),P x
 | 0,_=>h0
 | k+1,hk=>my (pw nA h0 m h k (by omega)) (h k (by omega)) _ _ _
theorem rF (nA:Nat->Nat->Nat){l:List Nd}(i:Nat)(h0:(eL l).Nodup):∀ k,(eL (j5 nA l i k)).Nodup
 | 0=>h0
 | k+1=>ov (rF nA i h0 k) _ _ _ _
structure rc (nN:Nat->Nat) (nA:Nat->Nat->Nat) (fr:List Nat) (i:Nat) (l:List Nd):Prop where
 nodup:(eL l).Nodup
 le:i<=l.length
 short:i=0\/l.length<=65536
 rest:f_ nN nA fr=if 65536<l.length then none else nH nN nA (65538-i) i l
theorem rc.start (nN:Nat->Nat)(nA:Nat->Nat->Nat)(fr:List Nat):rc nN nA fr 0 (iX fr fr.length):=
 ⟨ou fr _,aA _,.inl rfl,rfl⟩
theorem rc.next {nN:Nat->Nat}{nA:Nat->Nat->Nat}{fr:List Nat}{i:Nat}{l:List Nd}(G:rc nN nA fr i l)(hi:i<l.length)(hl:¬ 65536<(h_ nN nA l i).length):rc nN nA fr (i+1) (h_ nN nA l i):=by
 have hp:=(uq nN nA l i).length_le;refine⟨rF nA i G.nodup _,by omega,.inr (by omega),?_⟩;rw[G.rest,if_neg (by omega),if_neg hl,show 65538-i=(65538-(i+1))+1 by omega,L9 nN nA hi hl]
theorem rc.long {nN:Nat->Nat}{nA:Nat->Nat->Nat}{fr:List Nat}{i:Nat}{l:List Nd}(G:rc nN nA fr i l)(hi:i<l.length)(hl:65536<(h_ nN nA l i).length):f_ nN nA fr=none:=by
 rw[G.rest];split
 .rfl
 .rw[show 65538-i=(65538-(i+1))+1 by omega,L8 nN nA hi hl]
theorem rc.done {nN:Nat->Nat}{nA:Nat->Nat->Nat}{fr:List Nat}{i:Nat}{l:List Nd}(G:rc nN nA fr i l)(hi:¬ i<l.length):f_ nN nA fr=some l/\l.length<=65536:=by
 have hs:l.length<=65536:=by have:=G.le;rcases G.short with h|h <;> omega
 have:=G.le;refine⟨?_,hs⟩;rw[G.rest,if_neg (by omega),show 65538-i=(65538-i-1)+1 by omega,Pu nN nA hi]
def fq (n:Nat):List Nat:=if h:n<128 then [n] else (n%128+128) :: fq (n/128)
termination_by n
decreasing_by omega
theorem gR {n:Nat}(h:n<128):fq n=[n]:=by unfold fq;rw[dif_pos h]
theorem jO {n:Nat}(h:¬ n<128):fq n=(n%128+128) :: fq (n/128):=by
 conv=>lhs;unfold fq
 rw[dif_neg h]
theorem mr (n:Nat):∀ x∈fq n,x<256:=by
 induction n using aQ with
 | _ n ih=>
   intro x hx;by_cases h:n<128
   .rw[gR h]at hx;simp at hx;omega
   .rw[jO h]at hx;rcases aU.1 hx with rfl|hx
    .omega
    .exact ih (n/128) (by omega) x hx
def oA (l:List Nd):Nat->Nat->List Int
 | 0,_=>[]
 | f+1,i=>if (l.getD i default).par<0 then [(l.getD i default).fld] else oA l f (l.getD i default).par.toNat++[(l.getD i default).fld]
def fQ (l:List Nd)(i:Nat):List Int:=oA l (i+1) i
end
section
structure Mv (P:Nat->Prop) (f:Nat->Nat):Prop where
 kind:∀ x,(eR x=2->P x)->eR (f x)=eR x
 inj:∀ x y,P x->P y->f x=f y->x=y
 small:∀ x,eR x≠2->f x=x
def yE (f:Nat->Nat)(l:List Nd):List Nd:=l.map fun d=>{ d with o:=f d.o }
section
variable {P:Nat->Prop}{f:Nat->Nat}{l:List Nd}
theorem EF (f:Nat->Nat)(l:List Nd):(yE f l).length=l.length:=by unfold yE;rw[aR]
theorem wZ (f:Nat->Nat)(l:List Nd):eL (yE f l)=(eL l).map f:=by
 unfold eL yE;rw[aW,aW];rfl
theorem EG (M:Mv P f)(hl:∀ x∈eL l,P x){x:Nat}(hx:P x):f x∈(eL l).map f↔x∈eL l:=by
 constructor
 .intro h;obtain⟨y,hy,e⟩:=aL.1 h;exact M.inj y x (hl y hy) hx e ▸ hy
 .intro h;exact aL.2 ⟨x,h,rfl⟩
theorem Gv {x:Nat}:∀ {xs:List Nat},(∀ y∈xs,f y=f x->y=x)->(xs.map f).idxOf (f x)=xs.idxOf x
 | [],_=>rfl
 | y :: xs,h=>by
   rw[aT,aS,aS];by_cases e:y=x
   .subst e;simp
   .have e2:f y≠f x:=fun hh=>e (h y (aD ..) hh);have i1:(f y == f x)=false:=(by simpa using e2);have i2:(y == x)=false:=(by simpa using e);rw[i1,i2,Gv (fun z hz=>h z (ax _ hz))]
theorem UF (M:Mv P f)(hl:∀ x∈eL l,P x){x:Nat}(hx:P x):iZ (yE f l) (f x)=iZ l x:=by
 unfold iZ;rw[wZ];by_cases h:x∈eL l
 .rw[if_pos h,if_pos ((EG M hl hx).2 h),Gv fun y hy e=>M.inj y x (hl y hy) hx e]
 .rw[if_neg h,if_neg (fun hh=>h ((EG M hl hx).1 hh))]
theorem GF (M:Mv P f)(hl:∀ x∈eL l,P x){x:Nat}(hx:eR x=2->P x)(p g:Int)(d:Nat):fK (yE f l) (f x) p g d=yE f (fK l x p g d):=by
 unfold fK;rw[M.kind x hx,wZ];by_cases hk:eR x=2
 .by_cases h:x∈eL l
  .rw[if_neg (fun hh=>hh.2 ((EG M hl (hx hk)).2 h)),if_neg (fun hh=>hh.2 h)]
  .rw[if_pos ⟨hk,fun hh=>h ((EG M hl (hx hk)).1 hh)⟩,if_pos ⟨hk,h⟩];unfold yE;rw[ak];rfl
 .rw[if_neg (fun hh=>hk hh.1),if_neg (fun hh=>hk hh.1)]
theorem Ml {xs:List Nat}{k:Nat}(hk:k<xs.length):(xs.map f).getD k 0=f (xs.getD k 0):=by
 rw[ae,ae,aF,ah hk];rfl
theorem GC (M:Mv P f){fr:List Nat}(h:∀ x∈fr,eR x=2->P x):∀ k,k<=fr.length->iX (fr.map f) k=yE f (iX fr k)
 | 0,_=>rfl
 | k+1,hk=>by
   unfold iX;rw[GC M h k (by omega),Ml (by omega)];refine GF M (fun x hx=>lI fr h k (by omega) x hx) (h _ ?_) _ _ _;rw[ae,ah (show k<fr.length by omega)];exact aG _
section
variable {nN oK:Nat->Nat}{nA M3:Nat->Nat->Nat}
structure Vm (P:Nat->Prop) (f:Nat->Nat) (nN oK:Nat->Nat) (nA M3:Nat->Nat->Nat):Prop where
 mv:Mv P f
 num:∀ o,P o->oK (f o)=nN o
 nam:∀ o,P o->∀ k,k<nN o->M3 (f o) k=f (nA o k)
 shut:∀ o,P o->∀ k,k<nN o->eR (nA o k)=2->P (nA o k)
theorem VY (f:Nat->Nat){l:List Nd}{i:Nat}(hi:i<l.length):(yE f l).getD i default={ l.getD i default with o:=f (l.getD i default).o }:=by
 unfold yE;rw[ae,ae,aF,ah hi];rfl
theorem IP {l:List Nd}{i:Nat}(hi:i<l.length):(l.getD i default).o∈eL l:=by
 rw[ae,ah hi];exact aL.2 ⟨_,aG hi,rfl⟩
theorem GD (M:Vm P f nN oK nA M3)(hl:∀ x∈eL l,P x){i:Nat}(hi:i<l.length):∀ k,k<=nN (l.getD i default).o->j5 M3 (yE f l) i k=yE f (j5 nA l i k)
 | 0,_=>rfl
 | k+1,hk=>by
   have hP:=hl _ (IP hi);unfold j5;rw[GD M hl hi k (by omega),VY f hi];simp only;rw[M.nam _ hP k (by omega)];exact GF M.mv (pw nA hl (nN (l.getD i default).o) (fun j hj=>M.shut _ hP j hj) k (by omega)) (M.shut _ hP k (by omega)) _ _ _
theorem NH (M:Vm P f nN oK nA M3)(hl:∀ x∈eL l,P x){i:Nat}(hi:i<l.length):h_ oK M3 (yE f l) i=yE f (h_ nN nA l i):=by
 unfold h_;rw[VY f hi];simp only;rw[M.num _ (hl _ (IP hi))];exact GD M hl hi _ (ai _)
theorem Ay (M:Vm P f nN oK nA M3)(hl:∀ x∈eL l,P x){i:Nat}(hi:i<l.length):∀ x∈eL (h_ nN nA l i),P x:=
 pw nA hl (nN (l.getD i default).o) (fun j hj=>M.shut _ (hl _ (IP hi)) j hj) _ (ai _)
theorem KB (M:Vm P f nN oK nA M3):∀ (n i:Nat) (l:List Nd),(∀ x∈eL l,P x)->nH oK M3 n i (yE f l)=(nH nN nA n i l).map (yE f)
 | 0,_,_,_=>rfl
 | n+1,i,l,hl=>by
   unfold nH;rw[EF];by_cases hi:i<l.length
   .rw[if_pos hi,if_pos hi,NH M hl hi,EF];by_cases hb:65536<(h_ nN nA l i).length
    .rw[if_pos hb,if_pos hb];rfl
    .rw[if_neg hb,if_neg hb];exact KB M n (i+1) _ (Ay M hl hi)
   .rw[if_neg hi,if_neg hi];rfl
theorem Fz (M:Vm P f nN oK nA M3):∀ (n i:Nat) (l L:List Nd),(∀ x∈eL l,P x)->nH nN nA n i l=some L->∀ x∈eL L,P x
 | 0,_,_,_,_,h=>by cases h
 | n+1,i,l,L,hl,h=>by
   unfold nH at h;by_cases hi:i<l.length
   .rw[if_pos hi]at h;by_cases hb:65536<(h_ nN nA l i).length
    .rw[if_pos hb]at h;cases h
    .rw[if_neg hb]at h;exact Fz M n (i+1) _ L (Ay M hl hi) h
   .rw[if_neg hi]at h;cases h;exact hl
theorem RH (M:Vm P f nN oK nA M3){fr:List Nat}(h:∀ x∈fr,eR x=2->P x):f_ oK M3 (fr.map f)=(f_ nN nA fr).map (yE f):=by
 unfold f_;rw[aR,GC M.mv h _ (ai _),EF];by_cases hb:65536<(iX fr fr.length).length
 .rw[if_pos hb,if_pos hb];rfl
 .rw[if_neg hb,if_neg hb];exact KB M _ _ _ (lI fr h _ (ai _))
theorem NM (M:Vm P f nN oK nA M3){fr:List Nat}(h:∀ x∈fr,eR x=2->P x){L:List Nd}(hs:f_ nN nA fr=some L):∀ x∈eL L,P x:=by
 unfold f_ at hs;by_cases hb:65536<(iX fr fr.length).length
 .rw[if_pos hb]at hs;cases hs
 .rw[if_neg hb]at hs;exact Fz M _ _ _ _ (lI fr h _ (ai _)) hs
end
end
end
section
structure Df where
 kind:Nat
 path:List Int
 at_:Nat
def gj (l m:List Nd)(v u:Nat):Nat:=
 if eR v≠eR u then 1 else if eR v=0 then 0 else if eR v=1 then (if v=u then 0 else 2) else if iZ l v=iZ m u then 0 else 6
inductive y8 where
 | on (l m:List Nd)
 | off (d:Df)
def gO (a b:List Nat):Nat->y8
 | 0=> .on [] []
 | k+1=>match gO a b k with
   | .off d=> .off d
   | .on l m=>if gj l m (a.getD k 0) (b.getD k 0)=0 then .on (fK l (a.getD k 0) (-1) k 0) (fK m (b.getD k 0) (-1) k 0) else .off ⟨gj l m (a.getD k 0) (b.getD k 0),[(k:Int)],0⟩
section
variable (nN:Nat->Nat)(nA nB:Nat->Nat->Nat)(od:Nat->Nat->Option (Nat × Nat))
def iw (l:List Nd)(i:Nat):Nat:=(l.getD i default).o
def iI (l m:List Nd)(i:Nat):Nat->y8
 | 0=> .on l m
 | k + 1=>match iI l m i k with
   | .off d=> .off d
   | .on l' m'=>if gj l' m' (nA (iw l i) k) (nB (iw m i) k)=0 then .on (fK l' (nA (iw l i) k) i ((k:Int)-1) 0) (fK m' (nB (iw m i) k) i ((k:Int)-1) 0)
     else .off ⟨gj l' m' (nA (iw l i) k) (nB (iw m i) k),fQ l i++[(k:Int)-1],0⟩
def lD (l m:List Nd)(i:Nat):y8:=match od (iw l i) (iw m i) with
 | some (k,a)=> .off ⟨k,fQ l i,a⟩
 | none=>iI nA nB l m i (nN (iw l i))
def nR:Nat->Nat->List Nd->List Nd->Df
 | 0,_,_,_=>⟨0,[],0⟩
 | f+1,i,l,m=>if i<l.length then (match lD nN nA nB od l m i with | .off d=>d | .on l' m'=>nR f (i+1) l' m') else ⟨0,[],0⟩
def ve:Nat:=2097154
def mY (a b:List Nat):Df:=match gO a b a.length with | .off d=>d | .on l m=>nR nN nA nB od ve 0 l m
end
theorem IR {a b:List Nat}{k:Nat}{d:Df}(h:gO a b k= .off d):∀ j,k<=j->gO a b j= .off d:=by
 intro j hj
 induction j with
 | zero => obtain rfl:k=0:=by omega
           exact h
 | succ j ih=>
   rcases aj j k with h1|h1
   .obtain rfl:k=j+1:=(by omega);exact h
   .unfold gO;rw[ih h1]
theorem wK {a b:List Nat}{k:Nat}{l m:List Nd}(h:gO a b k= .on l m)(hp:gj l m (a.getD k 0) (b.getD k 0)=0):
 gO a b (k+1)= .on (fK l (a.getD k 0) (-1) k 0) (fK m (b.getD k 0) (-1) k 0):=by
 conv=>lhs;unfold gO
 rw[h];simp only[hp,if_true]
theorem IQ {a b:List Nat}{k:Nat}{l m:List Nd}(h:gO a b k= .on l m)(hp:gj l m (a.getD k 0) (b.getD k 0)≠0):
 gO a b (k+1)= .off ⟨gj l m (a.getD k 0) (b.getD k 0),[(k:Int)],0⟩:=by
 conv=>lhs;unfold gO
 rw[h];simp only[hp,if_false]
section
variable {nN:Nat->Nat}{nA nB:Nat->Nat->Nat}{od:Nat->Nat->Option (Nat × Nat)}
theorem JH {l m:List Nd}{i k:Nat}{d:Df}(h:iI nA nB l m i k= .off d):∀ j,k<=j->iI nA nB l m i j= .off d:=by
 intro j hj
 induction j with
 | zero => obtain rfl:k=0:=by omega
           exact h
 | succ j ih=>
   rcases aj j k with h1|h1
   .obtain rfl:k=j+1:=(by omega);exact h
   .unfold iI;rw[ih h1]
theorem Di {l m l' m':List Nd}{i k:Nat}(h:iI nA nB l m i k= .on l' m')(hp:gj l' m' (nA (iw l i) k) (nB (iw m i) k)=0):
 iI nA nB l m i (k+1)= .on (fK l' (nA (iw l i) k) i ((k:Int)-1) 0) (fK m' (nB (iw m i) k) i ((k:Int)-1) 0):=by
 conv=>lhs;unfold iI
 rw[h];simp only[hp,if_true]
theorem MT {f i:Nat}{l m:List Nd}(h:¬ i<l.length):nR nN nA nB od f i l m=⟨0,[],0⟩:=by
 cases f with
 | zero=>rfl
 | succ f=>unfold nR;rw[if_neg h]
theorem C_ {f i:Nat}{l m:List Nd}{d:Df}(h:i<l.length)(hr:lD nN nA nB od l m i= .off d):nR nN nA nB od (f+1) i l m=d:=by
 unfold nR;rw[if_pos h,hr]
theorem QO {f i:Nat}{l m l' m':List Nd}(h:i<l.length)(hr:lD nN nA nB od l m i= .on l' m'):nR nN nA nB od (f+1) i l m=nR nN nA nB od f (i+1) l' m':=by
 conv=>lhs;unfold nR
 rw[if_pos h,hr]
end
structure Side (l m:List Nd):Prop where
 len:m.length=l.length
 par:∀ i,i<l.length->(m.getD i default).par=(l.getD i default).par/\(m.getD i default).fld=(l.getD i default).fld
 up:∀ i,i<l.length->(l.getD i default).par<(i:Int)
 ndl:(eL l).Nodup
 ndm:(eL m).Nodup
theorem Side.nil:Side [] []:=⟨rfl,fun i h=>by simp at h,fun i h=>by simp at h,aJ,aJ⟩
theorem sr (l:List Nd)(x:Nd)(i:Nat):(l++[x]).getD i default=if i<l.length then l.getD i default else if i=l.length then x else default:=by
 simp only[ae];split
 .rename_i h;rw[aq h]
 .rename_i h;rw[List.getElem?_append_right (by omega)];split
  .rename_i h2;subst h2;simp
  .rename_i h2;have:1<=i-l.length:=(by omega);rw[aw (by simp;omega)];rfl
theorem pC {l:List Nd}{x:Nat}:iZ l x=0↔x∉eL l:=by
 have:=@mN l x;constructor
 .intro h hm;have:=this.2 hm;omega
 .intro h;apply Nat.eq_zero_of_not_pos;intro h2;exact h (this.1 h2)
theorem nV {l m:List Nd}{v u:Nat}:gj l m v u=0↔eR v=eR u/\(eR v=1->v=u)/\(eR v=2->iZ l v=iZ m u):=by
 have hk:eR v=0\/eR v=1\/eR v=2:=by unfold eR;split <;> (try split) <;> simp
 unfold gj;by_cases h:eR v=eR u
 .rw[if_neg (by simpa using h)];rcases hk with h0|h0|h0 <;> simp[h0,<-h]
 .rw[if_pos (by simpa using h)];simp[h]
theorem Side.meet {l m:List Nd}(S:Side l m){v u:Nat}(hp:gj l m v u=0)(p f:Int)(d:Nat)(hpl:p<(l.length:Int)):Side (fK l v p f d) (fK m u p f d):=by
 obtain⟨h1,h2,h3⟩:=nV.1 hp;by_cases hk:eR v=2
 .have e:=h3 hk;by_cases hm:v∈eL l
  .have wy:u∈eL m:=mN.1 (by rw[<-e];exact mN.2 hm);rw[jd (fun h=>h.2 hm),jd (fun h=>h.2 wy)];exact S
  .have wy:u∉eL m:=pC.1 (by rw[<-e];exact pC.2 hm);have Iq:=ov S.ndl v p f d;have qY:=ov S.ndm u p f d;rw[py hk hm]at Iq ⊢;rw[py (by rw[<-h1];exact hk) wy]at qY ⊢;refine⟨by simp[S.len],fun i hi=>?_,fun i hi=>?_,Iq,qY⟩
   .rw[sr,sr,S.len];split
    .exact S.par i (by assumption)
    .split
     .exact⟨rfl,rfl⟩
     .exact⟨rfl,rfl⟩
   .rw[sr];rw[List.length_append]at hi;simp only[List.length_cons,List.length_nil]at hi;split
    .exact S.up i (by assumption)
    .rename_i hn;have:i=l.length:=(by omega);rw[if_pos this];subst this;exact hpl
 .rw[jd (fun h=>hk h.1),jd (fun h=>hk (h1 ▸ h.1))];exact S
theorem w_ {l l':List Nd}(yj:l <+: l')(up:∀ i,i<l.length->(l.getD i default).par<(i:Int)):∀ f i,i<l.length->oA l' f i=oA l f i
 | 0,_,_=>rfl
 | f+1,i,hi=>by
   obtain⟨r,rfl⟩:=yj;have e:(l++r).getD i default=l.getD i default:=by
    rw[ae,ae,aq hi]
   unfold oA;rw[e];split
   .rfl
   .rename_i h0;have:=up i hi;rw[w_ (aB l r) up f _ (by omega)]
theorem Dz {l l':List Nd}(yj:l <+: l')(up:∀ i,i<l.length->(l.getD i default).par<(i:Int)){i:Nat}(hi:i<l.length):fQ l' i=fQ l i:=w_ yj up _ i hi
theorem Ai {l:List Nd}(up:∀ i,i<l.length->(l.getD i default).par<(i:Int)):∀ f g i,i<l.length->i<f->i<g->oA l f i=oA l g i
 | 0,_,i,_,h,_=>by omega
 | _,0,i,_,_,h=>by omega
 | f+1,g+1,i,hi,hf,hg=>by
   unfold oA;split
   .rfl
   .rename_i h0;have:=up i hi;rw[Ai up f g _ (by omega) (by omega) (by omega)]
theorem Nt {l:List Nd}(up:∀ i,i<l.length->(l.getD i default).par<(i:Int))(o:Nat)(p f:Int)(d:Nat)(hp:p<(l.length:Int)):
 fQ (l++[⟨o,p,f,d⟩]) l.length=if p<0 then [f] else fQ l p.toNat++[f]:=by
 have e:(l++[(⟨o,p,f,d⟩ :Nd)]).getD l.length default=(⟨o,p,f,d⟩ :Nd):=by rw[sr,if_neg (by omega),if_pos rfl]
 unfold fQ
 conv=>lhs;unfold oA
 rw[e];show (if p<0 then [f] else oA (l++[⟨o,p,f,d⟩]) l.length p.toNat++[f])=_;split
 .rfl
 .rename_i h0;rw[w_ (aB l _) up _ _ (by omega),Ai up _ (p.toNat+1) _ (by omega) (by omega) (by omega)]
theorem mL {a b:List Nat}:∀ {k:Nat} {l m:List Nd},gO a b k= .on l m->Side l m
 | 0,l,m,h=>by unfold gO at h;injection h with h1 h2;subst h1;subst h2;exact .nil
 | k + 1,l,m,h=>by
   unfold gO at h
   cases hb:gO a b k with
   | off d=>rw[hb]at h;cases h
   | on l' m'=>
     rw[hb]at h;simp only at h;split at h
     .rename_i hp;injection h with h1 h2;subst h1;subst h2;exact (mL hb).meet hp _ _ _ (by omega)
     .cases h
theorem rH {nA nB:Nat->Nat->Nat}{l m:List Nd}{i:Nat}(S:Side l m)(hi:i<l.length):∀ {k:Nat} {l' m':List Nd},iI nA nB l m i k= .on l' m'->Side l' m'/\l <+: l'/\m <+: m'
 | 0,l',m',h=>by unfold iI at h;injection h with h1 h2;subst h1;subst h2;exact⟨S,ag _,ag _⟩
 | k + 1,l',m',h=>by
   unfold iI at h
   cases hb:iI nA nB l m i k with
   | off d=>rw[hb]at h;cases h
   | on l2 m2=>
     rw[hb]at h;simp only at h;split at h
     .rename_i hp;injection h with h1 h2;subst h1;subst h2;obtain⟨S2,p2,q2⟩:=rH S hi hb;exact⟨S2.meet hp _ _ _ (by have:=p2.length_le;omega),p2.trans (kr _ _ _ _ _),q2.trans (kr _ _ _ _ _)⟩
     .cases h
end
section
theorem JX (l m:List Nd)(v u:Nat):gj m l u v=gj l m v u:=by
 unfold gj;by_cases h:eR v=eR u
 .simp only[h,ne_eq,not_true_eq_false,if_false];by_cases h0:eR u=0
  .simp only[h0,if_true]
  .by_cases h1:eR u=1
   .simp only[h1];by_cases e:v=u
    .subst e;rfl
    .have e':¬ u=v:=fun h=>e h.symm;simp[e,e']
   .simp only[h0,h1,if_false];by_cases e:iZ l v=iZ m u
    .rw[if_pos e,if_pos e.symm]
    .rw[if_neg e,if_neg (fun h=>e h.symm)]
 .rw[if_pos (fun e=>h e.symm),if_pos h]
def y8.swap:y8->y8
 | .on l m=> .on m l
 | .off d=> .off d
theorem Fy {a b:List Nat}:∀ k,gO b a k=(gO a b k).swap
 | 0=>rfl
 | k + 1=>by
   unfold gO;rw[Fy k]
   cases gO a b k with
   | off d=>rfl
   | on l m=>
     simp only[y8.swap,JX l m];split <;> rfl
section
variable {nN oK:Nat->Nat}{nA nB nC:Nat->Nat->Nat}{od od' od2 od3:Nat->Nat->Option (Nat × Nat)}
theorem Hi {l m l' m':List Nd}(S:Side l m){i:Nat}(hi:i<l.length)(h:lD nN nA nB od l m i= .on l' m'):Side l' m'/\l <+: l'/\m <+: m':=by
 unfold lD at h;split at h
 .cases h
 .exact rH S hi h
def ub (nN:Nat->Nat)(nA nB:Nat->Nat->Nat)(od:Nat->Nat->Option (Nat × Nat)):Nat->Nat->List Nd->List Nd->Prop
 | 0,_,_,_=>True
 | f+1,i,l,m=>i<l.length->∃ l' m',lD nN nA nB od l m i= .on l' m'/\ub nN nA nB od f (i+1) l' m'
def onD (nN:Nat->Nat)(nA nB:Nat->Nat->Nat)(od:Nat->Nat->Option (Nat × Nat))(a b:List Nat):Prop:=∃ l m,gO a b a.length= .on l m/\ub nN nA nB od ve 0 l m
theorem xA {a b:List Nat}:∀ {k:Nat} {d:Df},gO a b k= .off d->d.kind≠0
 | 0,d,h=>by cases h
 | k + 1,d,h=>by
   unfold gO at h
   cases hb:gO a b k with
   | off d'=>rw[hb]at h;injection h with h;subst h;exact xA hb
   | on l m=>
     rw[hb]at h;simp only at h;split at h
     .cases h
     .rename_i hp;injection h with h;subst h;exact hp
theorem xL {l m:List Nd}{i:Nat}:∀ {k:Nat} {d:Df},iI nA nB l m i k= .off d->d.kind≠0
 | 0,d,h=>by cases h
 | k + 1,d,h=>by
   unfold iI at h
   cases hb:iI nA nB l m i k with
   | off d'=>rw[hb]at h;injection h with h;subst h;exact xL hb
   | on l' m'=>
     rw[hb]at h;simp only at h;split at h
     .cases h
     .rename_i hp;injection h with h;subst h;exact hp
theorem Hh (h0:∀ o q k x,od o q=some (k,x)->k≠0){l m:List Nd}{i:Nat}{d:Df}(h:lD nN nA nB od l m i= .off d):d.kind≠0:=by
 unfold lD at h
 cases ho:od (iw l i) (iw m i) with
 | some x=>rw[ho]at h;injection h with h;subst h;exact h0 _ _ _ _ ho
 | none=>rw[ho]at h;exact xL h
theorem zL (h0:∀ o q k x,od o q=some (k,x)->k≠0):∀ (f i:Nat) (l m:List Nd),(nR nN nA nB od f i l m).kind=0↔ub nN nA nB od f i l m
 | 0,_,_,_=>by simp[nR,ub]
 | f+1,i,l,m=>by
   unfold nR ub;split
   .rename_i hi
    cases h:lD nN nA nB od l m i with
    | off d=>
      simp only[hi,forall_const];constructor
      .intro e;exact absurd e (Hh h0 h)
      .rintro⟨l',m',e,_⟩;cases e
    | on l' m'=>
      simp only[hi,forall_const,zL h0 f];constructor
      .intro e;exact⟨l',m',rfl,e⟩
      .rintro⟨l2,m2,e,h2⟩;injection e with e1 e2;subst e1;subst e2;exact h2
   .rename_i hi;simp[hi]
theorem zl (h0:∀ o q k x,od o q=some (k,x)->k≠0)(a b:List Nat):(mY nN nA nB od a b).kind=0↔onD nN nA nB od a b:=by
 unfold mY onD
 cases h:gO a b a.length with
 | off d=>
   constructor
   .intro e;exact absurd e (xA h)
   .rintro⟨l,m,e,_⟩;cases e
 | on l m=>
   simp only[zL h0];constructor
   .intro e;exact⟨l,m,rfl,e⟩
   .rintro⟨l2,m2,e,h2⟩;injection e with e1 e2;subst e1;subst e2;exact h2
theorem z_ (l:List Nd)(v:Nat):gj l l v v=0:=nV.2 ⟨rfl,fun _=>rfl,fun _=>rfl⟩
theorem xB (a:List Nat):∀ k,∃ l,gO a a k= .on l l
 | 0=>⟨[],rfl⟩
 | k+1=>by obtain⟨l,h⟩:=xB a k;exact⟨_,wK h (z_ _ _)⟩
theorem xM (l:List Nd)(i:Nat):∀ k,∃ l',iI nA nA l l i k= .on l' l'
 | 0=>⟨l,rfl⟩
 | k+1=>by obtain⟨l',h⟩:=xM l i k;exact⟨_,Di h (z_ _ _)⟩
theorem xJ (hr:∀ o,od o o=none):∀ (f i:Nat) (l:List Nd),ub nN nA nA od f i l l
 | 0,_,_=>trivial
 | f+1,i,l=>fun hi=>by
   obtain⟨l',h⟩:=xM (nA:=nA) l i (nN (iw l i));exact⟨l',l',by unfold lD;rw[hr];exact h,xJ hr f (i+1) l'⟩
theorem Q9 (hr:∀ o,od o o=none)(a:List Nat):onD nN nA nA od a a:=by
 obtain⟨l,h⟩:=xB a a.length;exact⟨l,l,h,xJ hr _ _ _⟩
end
end
section
section
variable (nN:Nat->Nat)(nA:Nat->Nat->Nat)
def iA (fr:List Nat):Nat->List Nd
 | 0=>iX fr fr.length
 | i+1=>h_ nN nA (iA fr i) i
end
section
variable {nN oK:Nat->Nat}{nA nB:Nat->Nat->Nat}{od:Nat->Nat->Option (Nat × Nat)}
theorem DN (fr:List Nat){i j:Nat}(h:i<=j):iA nN nA fr i <+: iA nN nA fr j:=by
 induction j with
 | zero => obtain rfl:i=0:=by omega
           exact ag _
 | succ j ih=>
   rcases aj i (j+1) with h1|h1
   .exact (ih (by omega)).trans (uq nN nA _ _)
   .obtain rfl:i=j+1:=(by omega);exact ag _
theorem FB {fr:List Nat}{L:List Nd}:∀ f i,nH nN nA f i (iA nN nA fr i)=some L->
 ∃ n,i<=n/\n<i+f/\L=iA nN nA fr n/\L.length<=n/\∀ j,i<=j->j<n->j<(iA nN nA fr j).length
 | 0,i,h=>by simp[nH]at h
 | f + 1,i,h=>by
   unfold nH at h;split at h
   .rename_i hi;split at h
    .cases h
    .obtain⟨n,h1,h2,h3,h4,h5⟩:=FB (fr:=fr) f (i+1) h;refine⟨n,by omega,by omega,h3,h4,fun j hj hn=>?_⟩;rcases aj i j with uF|uF
     .exact h5 j (by omega) hn
     .obtain rfl:i=j:=(by omega);exact hi
   .rename_i hi;injection h with h;exact⟨i,ai _,by omega,h.symm,by rw[<-h];omega,fun j h1 h2=>by omega⟩
theorem mE {fr:List Nat}{L:List Nd}(h:f_ nN nA fr=some L):
 L=iA nN nA fr L.length/\(∀ j,j<L.length->j<(iA nN nA fr j).length)/\L.length<=65537:=by
 unfold f_ at h;split at h
 .cases h
 .obtain⟨n,h1,h2,h3,h4,h5⟩:=FB (nN:=nN) (nA:=nA) (fr:=fr) _ 0 h;have hn:n=L.length:=by
   rcases Nat.eq_zero_or_pos n with h0|h0
   .omega
   .have h6:=h5 (n-1) (by omega) (by omega);have h7:=(DN (nN:=nN) (nA:=nA) fr (show n-1<=n by omega)).length_le;rw[<-h3]at h7;omega
  subst hn;exact⟨h3,fun j hj=>h5 j (by omega) hj,by omega⟩
theorem iN {fr:List Nat}{L:List Nd}(h:f_ nN nA fr=some L){i:Nat}(hi:i<=L.length):iA nN nA fr i <+: L:=by
 have:=DN (nN:=nN) (nA:=nA) fr hi;rw[<-(mE h).1]at this;exact this
def bare (l:List Nd):List Nd:=l.map fun n=>{ n with deep:=0 }
theorem rr (l:List Nd):(bare l).length=l.length:=by simp[bare]
theorem oX (l:List Nd):eL (bare l)=eL l:=by simp[bare,eL]
theorem TM (l:List Nd)(i:Nat):(bare l).getD i default={ l.getD i default with deep:=0 }:=by
 unfold bare;simp only[ae,aF];cases l[i]? <;> rfl
theorem mK (l:List Nd)(i:Nat):iw (bare l) i=iw l i:=by unfold iw;rw[TM]
theorem mo (l:List Nd)(o:Nat)(p f:Int)(d:Nat):fK (bare l) o p f 0=bare (fK l o p f d):=by
 unfold fK;rw[oX];split
 .simp[bare]
 .rfl
theorem xz {a b:List Nat}:∀ {k:Nat} {l m:List Nd},gO a b k= .on l m->l=bare (iX a k)/\m=bare (iX b k)
 | 0,l,m,h=>by unfold gO at h;injection h with h1 h2;subst h1;subst h2;exact⟨rfl,rfl⟩
 | k + 1,l,m,h=>by
   unfold gO at h
   cases hb:gO a b k with
   | off d=>rw[hb]at h;cases h
   | on l' m'=>
     obtain⟨rfl,rfl⟩:=xz hb;rw[hb]at h;simp only at h;split at h
     .injection h with h1 h2;subst h1;subst h2;exact⟨mo _ _ _ _ 1,mo _ _ _ _ 1⟩
     .cases h
theorem GP {l L:List Nd}(hp:eL l <+: eL L)(x:Nat):iZ l x=if iZ L x<=l.length then iZ L x else 0:=by
 obtain⟨r,hr⟩:=hp;unfold iZ;rw[<-hr];by_cases h:x∈eL l
 .have h1:=aC h;rw[fI]at h1;rw[if_pos h,if_pos (List.mem_append_left _ h),ar,if_pos h,if_pos (by omega)]
 .rw[if_neg h];by_cases h2:x∈eL l++r
  .rw[if_pos h2,ar,if_neg h,fI,if_neg (by omega)]
  .rw[if_neg h2];simp
theorem nW {l L:List Nd}(h:l <+: L):eL l <+: eL L:=by
 obtain⟨r,rfl⟩:=h;exact⟨eL r,by simp[eL]⟩
theorem Dt {l m L M:List Nd}(hl:eL l <+: eL L)(hm:eL m <+: eL M)(he:l.length=m.length){v u:Nat}(h:gj L M v u=0):gj l m v u=0:=by
 obtain⟨h1,h2,h3⟩:=nV.1 h;exact nV.2 ⟨h1,h2,fun hk=>by rw[GP hl,GP hm,h3 hk,he]⟩
theorem GG {l:List Nd}{v:Nat}(p f:Int)(d:Nat)(h:eR v=2):v∈eL (fK l v p f d):=by
 by_cases hm:v∈eL l
 .exact (nW (kr l v p f d)).subset hm
 .rw[py h hm];simp[eL]
structure Alike (nN:Nat->Nat) (nA nB:Nat->Nat->Nat) (od:Nat->Nat->Option (Nat × Nat)) (L M:List Nd) (a b:List Nat):Prop where
 fr:∀ k,k<a.length->gj L M (a.getD k 0) (b.getD k 0)=0
 len:M.length=L.length
 od:∀ i,i<L.length->od (iw L i) (iw M i)=none
 nm:∀ i,i<L.length->∀ k,k<nN (iw L i)->gj L M (nA (iw L i) k) (nB (iw M i) k)=0
theorem vL {l l':List Nd}(h:l <+: l'){i:Nat}(hi:i<l.length):iw l i=iw l' i:=by
 obtain⟨r,rfl⟩:=h;unfold iw;rw[ae,ae,aq hi]
theorem ud (fr:List Nat){i j:Nat}(h:i<=j):iX fr i <+: iX fr j:=by
 induction j with
 | zero => obtain rfl:i=0:=by omega
           exact ag _
 | succ j ih=>
   rcases aj i (j+1) with h1|h1
   .exact (ih (by omega)).trans (kr _ _ _ _ _)
   .obtain rfl:i=j+1:=(by omega);exact ag _
theorem Ll {a:List Nat}{L:List Nd}(hL:f_ nN nA a=some L){k:Nat}(hk:k<a.length)(h2:eR (a.getD k 0)=2):a.getD k 0∈eL L:=
 (nW ((ud a (show k+1<=a.length by omega)).trans (iN hL (aA _)))).subset (GG _ _ _ h2)
theorem Lm {a:List Nat}{L:List Nd}(hL:f_ nN nA a=some L){i:Nat}(hi:i<L.length){k:Nat}(hk:k<nN (iw L i))(h2:eR (nA (iw L i) k)=2):nA (iw L i) k∈eL L:=by
 have hs:=(mE hL).2.1 i hi;have ho:iw (iA nN nA a i) i=iw L i:=vL (iN hL (ay hi)) hs
 have h3:j5 nA (iA nN nA a i) i (k+1) <+: L:=
  (ue nA _ i (show k+1<=nN ((iA nN nA a i).getD i default).o by rw[show ((iA nN nA a i).getD i default).o=iw L i from ho];exact hk)).trans (iN hL (show i+1<=L.length from hi))
 refine (nW h3).subset ?_;show _∈eL (fK _ (nA ((iA nN nA a i).getD i default).o k) _ _ _);rw[show ((iA nN nA a i).getD i default).o=iw L i from ho];exact GG _ _ _ h2
section
variable {a b:List Nat}{L M:List Nd}
theorem xx (hL:f_ nN nA a=some L)(hM:f_ oK nB b=some M)(hab:b.length=a.length)(A:∀ k,k<a.length->gj L M (a.getD k 0) (b.getD k 0)=0):
 ∀ k,k<=a.length->gO a b k= .on (bare (iX a k)) (bare (iX b k))
 | 0,_=>rfl
 | k+1,hk=>by
   have ih:=xx hL hM hab A k (by omega);have S:=mL ih;have hl:iX a k <+: L:=(ud a (by omega)).trans (iN hL (aA _));have hm:iX b k <+: M:=(ud b (by omega)).trans (iN hM (aA _));have hp:=Dt (l:=bare (iX a k)) (m:=bare (iX b k)) (by rw[oX];exact nW hl) (by rw[oX];exact nW hm) S.len.symm (A k (by omega));rw[wK ih hp,mo _ _ _ _ 1,mo _ _ _ _ 1];rfl
theorem xy (hL:f_ nN nA a=some L)(hM:f_ oK nB b=some M){i:Nat}(hi:i<L.length)(Ir:i<M.length)(S:Side (bare (iA nN nA a i)) (bare (iA oK nB b i)))
 (hn:oK (iw M i)=nN (iw L i))(A:∀ k,k<nN (iw L i)->gj L M (nA (iw L i) k) (nB (iw M i) k)=0):
 ∀ k,k<=nN (iw L i)->iI nA nB (bare (iA nN nA a i)) (bare (iA oK nB b i)) i k= .on (bare (j5 nA (iA nN nA a i) i k)) (bare (j5 nB (iA oK nB b i) i k))
 | 0,_=>rfl
 | k+1,hk=>by
   have ih:=xy hL hM hi Ir S hn A k (by omega);have Iw:=(mE hL).2.1 i hi;have hsm:=(mE hM).2.1 i Ir;have KZ:iw (iA nN nA a i) i=iw L i:=vL (iN hL (ay hi)) Iw;have yi:iw (iA oK nB b i) i=iw M i:=vL (iN hM (ay Ir)) hsm;obtain⟨S2,-,-⟩:=rH S (by rw[rr];exact Iw) ih;have hl:j5 nA (iA nN nA a i) i k <+: L:=(ue nA _ i (show k<=nN (iw (iA nN nA a i) i) by rw[KZ];omega)).trans (iN hL (show i+1<=L.length from hi));have hm:j5 nB (iA oK nB b i) i k <+: M:=(ue nB _ i (show k<=oK (iw (iA oK nB b i) i) by rw[yi,hn];omega)).trans (iN hM (show i+1<=M.length from Ir));have hp:=Dt (l:=bare (j5 nA (iA nN nA a i) i k)) (m:=bare (j5 nB (iA oK nB b i) i k)) (by rw[oX];exact nW hl) (by rw[oX];exact nW hm) S2.len.symm (A k (by omega));rw[Di ih (by rw[mK,mK,KZ,yi];exact hp),mo _ _ _ _ (((iA nN nA a i).getD i default).deep+1),mo _ _ _ _ (((iA oK nB b i).getD i default).deep+1),mK,mK];rfl
theorem Fv (hL:f_ nN nA a=some L)(hM:f_ oK nB b=some M)(hn:∀ o q,od o q=none->oK q=nN o)(A:Alike nN nA nB od L M a b){i:Nat}(hi:i<L.length)(S:Side (bare (iA nN nA a i)) (bare (iA oK nB b i))):
 lD nN nA nB od (bare (iA nN nA a i)) (bare (iA oK nB b i)) i= .on (bare (iA nN nA a (i+1))) (bare (iA oK nB b (i+1))):=by
 have Ir:i<M.length:=by rw[A.len];exact hi
 have KZ:iw (iA nN nA a i) i=iw L i:=vL (iN hL (ay hi)) ((mE hL).2.1 i hi);have yi:iw (iA oK nB b i) i=iw M i:=vL (iN hM (ay Ir)) ((mE hM).2.1 i Ir);have CU:=hn _ _ (A.od i hi);have h1:=xy hL hM hi Ir S CU (A.nm i hi) _ (ai _);unfold lD;rw[mK,mK,KZ,yi,A.od i hi];simp only[h1];show _=y8.on (bare (j5 nA (iA nN nA a i) i (nN (iw (iA nN nA a i) i)))) (bare (j5 nB (iA oK nB b i) i (oK (iw (iA oK nB b i) i))));rw[KZ,yi,CU]
theorem y9 (hL:f_ nN nA a=some L)(hM:f_ oK nB b=some M)(hn:∀ o q,od o q=none->oK q=nN o)(A:Alike nN nA nB od L M a b):
 ∀ f i,i<=L.length->Side (bare (iA nN nA a i)) (bare (iA oK nB b i))->ub nN nA nB od f i (bare (iA nN nA a i)) (bare (iA oK nB b i))
 | 0,_,_,_=>trivial
 | f+1,i,hi,S=>fun hlt=>by
   rw[rr]at hlt;have uE:i<L.length:=Nat.lt_of_lt_of_le hlt (iN hL hi).length_le;have hr:=Fv hL hM hn A uE S;exact⟨_,_,hr,y9 hL hM hn A f (i+1) uE (Hi S (by rw[rr];exact hlt) hr).1⟩
theorem LX (hL:f_ nN nA a=some L)(hM:f_ oK nB b=some M)(hn:∀ o q,od o q=none->oK q=nN o)(hab:b.length=a.length)(A:Alike nN nA nB od L M a b):onD nN nA nB od a b:=by
 have h:=xx hL hM hab A.fr _ (ai _);refine⟨_,_,h,?_⟩;have S:=mL h;have e:bare (iX b a.length)=bare (iA oK nB b 0):=by rw[<-hab];rfl
 rw[e]at S ⊢;exact y9 hL hM hn A _ 0 (aA _) S
end
end
end
section
theorem zg:∀ (x y:Nat) (s t:List Nat),fq x++s=fq y++t->x=y/\s=t:=by
 intro x
 induction x using aQ with
 | _ x ih=>
   intro y s t h;by_cases hx:x<128
   .by_cases hy:y<128
    .rw[gR hx,gR hy]at h;simp only[au,aH,az]at h;exact h
    .rw[gR hx,jO hy]at h;simp only[au,aH,az]at h;omega
   .by_cases hy:y<128
    .rw[jO hx,gR hy]at h;simp only[au,aH,az]at h;omega
    .rw[jO hx,jO hy]at h;simp only[au,az]at h;obtain⟨h1,h2⟩:=ih (x/128) (by omega) (y/128) s t h.2;exact⟨by omega,h2⟩
theorem u_ {f g:Nat->Nat}:∀ {xs ys:List Nat} {s t:List Nat},xs.length=ys.length->xs.flatMap (fun k=>fq (f k))++s=ys.flatMap (fun k=>fq (g k))++t->
 (∀ k,k<xs.length->f (xs.getD k 0)=g (ys.getD k 0))/\s=t
 | [],[],s,t,_,h=>⟨fun k hk=>by simp at hk,h⟩
 | x :: xs,y :: ys,s,t,hl,h=>by
   rw[af,af,aM,aM]at h;obtain⟨h1,h2⟩:=zg _ _ _ _ h;obtain⟨h3,h4⟩:=u_ (by simpa using hl) h2;refine⟨fun k hk=>?_,h4⟩
   cases k with
   | zero=>exact h1
   | succ k=>exact h3 k (by simpa using hk)
 | [],y :: ys,_,_,hl,_=>by simp at hl
 | x :: xs,[],_,_,hl,_=>by simp at hl
theorem sj {f g:Nat->Nat}:∀ {xs ys:List Nat},xs.length=ys.length->(∀ k,k<xs.length->f (xs.getD k 0)=g (ys.getD k 0))->xs.flatMap (fun k=>fq (f k))=ys.flatMap (fun k=>fq (g k))
 | [],[],_,_=>rfl
 | x :: xs,y :: ys,hl,h=>by
   rw[af,af,show f x=g y from h 0 (by simp),sj (xs:=xs) (ys:=ys) (by simpa using hl) (fun k hk=>h (k+1) (by simpa using hk))]
 | [],y :: ys,hl,_=>by simp at hl
 | x :: xs,[],hl,_=>by simp at hl
theorem GV {F G:Nat->List Nat}{R:Nat->Nat->Prop}(hF:∀ o,F o≠[])(hG:∀ o,G o≠[]):∀ {xs ys:List Nat},(∀ o∈xs,∀ q∈ys,∀ s t,F o++s=G q++t->R o q/\s=t)->xs.flatMap F=ys.flatMap G->
 ys.length=xs.length/\∀ k,k<xs.length->R (xs.getD k 0) (ys.getD k 0)
 | [],[],_,_=>⟨rfl,fun k hk=>by simp at hk⟩
 | x :: xs,y :: ys,hp,h=>by
   rw[af,af]at h;obtain⟨h1,h2⟩:=hp x (aD ..) y (aD ..) _ _ h;obtain⟨h3,h4⟩:=GV hF hG (fun o ho q hq=>hp o (ax _ ho) q (ax _ hq)) h2;refine⟨by simp[h3],fun k hk=>?_⟩
   cases k with
   | zero=>exact h1
   | succ k=>exact h4 k (by simpa using hk)
 | [],y :: ys,_,h=>by
   rw[aN,af]at h;exact absurd (aI.1 h.symm).1 (hG y)
 | x :: xs,[],_,h=>by
   rw[aN,af]at h;exact absurd (aI.1 h).1 (hF x)
theorem Dn {F G:Nat->List Nat}:∀ {xs ys:List Nat},ys.length=xs.length->(∀ k,k<xs.length->F (xs.getD k 0)=G (ys.getD k 0))->xs.flatMap F=ys.flatMap G
 | [],[],_,_=>rfl
 | x :: xs,y :: ys,hl,h=>by
   rw[af,af,show F x=G y from h 0 (by simp),Dn (xs:=xs) (ys:=ys) (by simpa using hl) (fun k hk=>h (k+1) (by simpa using hk))]
 | [],y :: ys,hl,_=>by simp at hl
 | x :: xs,[],hl,_=>by simp at hl
def tV (n:Nat)(v w:Nat->Nat):Option Nat:=(aK n).find? fun k=>decide (v k≠w k)
theorem xE {n:Nat}{v w:Nat->Nat}:tV n v w=none↔∀ k,k<n->v k=w k:=by
 unfold tV;rw[List.find?_eq_none];simp
theorem Ev {n k:Nat}{v w:Nat->Nat}(hk:k<n)(h:v k≠w k)(hb:∀ j,j<k->v j=w j):tV n v w=some k:=by
 unfold tV;rw[List.find?_eq_some_iff_getElem];refine⟨by simpa using h,k,by simpa using hk,by simp,fun j hj=>by simpa using hb j hj⟩
end
section
def Lp (nA nB:Nat->Nat->Nat)(o u:Nat)(i:Nat)(path:List Int):y8->Nat->y8
 | .off d,_=> .off d
 | .on l m,k=>if gj l m (nA o k) (nB u k)=0 then .on (fK l (nA o k) i ((k:Int)-1) 0) (fK m (nB u k) i ((k:Int)-1) 0) else .off ⟨gj l m (nA o k) (nB u k),path++[(k:Int)-1],0⟩
def mV (nA nB:Nat->Nat->Nat)(l m:List Nd)(i:Nat)(pre:List Nat):y8:=pre.foldl (Lp nA nB (iw l i) (iw m i) i (fQ l i)) (.on l m)
section
variable {nA nB:Nat->Nat->Nat}{l m l' m':List Nd}{i k:Nat}{pre:List Nat}
theorem rI (pre:List Nat)(k:Nat):mV nA nB l m i (pre++[k])=Lp nA nB (iw l i) (iw m i) i (fQ l i) (mV nA nB l m i pre) k:=by
 unfold mV;rw[List.foldl_append];rfl
theorem M4 (h:mV nA nB l m i pre= .on l' m')(hp:gj l' m' (nA (iw l i) k) (nB (iw m i) k)=0):
 mV nA nB l m i (pre++[k])= .on (fK l' (nA (iw l i) k) i ((k:Int)-1) 0) (fK m' (nB (iw m i) k) i ((k:Int)-1) 0):=by
 rw[rI,h];unfold Lp;simp only[hp,if_true]
theorem JI (h:mV nA nB l m i pre= .on l' m')(hp:gj l' m' (nA (iw l i) k) (nB (iw m i) k)≠0):
 mV nA nB l m i (pre++[k])= .off ⟨gj l' m' (nA (iw l i) k) (nB (iw m i) k),fQ l i++[(k:Int)-1],0⟩:=by
 rw[rI,h];unfold Lp;simp only[hp,if_false]
theorem qs:∀ k,mV nA nB l m i (aK k)=iI nA nB l m i k
 | 0=>rfl
 | k+1=>by
   rw[List.range_succ,rI,qs k]
   conv=>rhs;unfold iI
   cases iI nA nB l m i k <;> rfl
theorem FQ (n:Nat):(aV n).map (·.1)=aK n:=by
 apply aO
 .simp
 .intro j h1 h2;simp
theorem TQ {n:Nat}{pre:List (Fin n)}(h:pre <+: aV n):pre.map (·.1)=aK pre.length/\pre.length<=n:=by
 have hl:=h.length_le;rw[List.length_finRange]at hl;refine⟨?_,hl⟩;obtain⟨r,hr⟩:=h;have h2:=congrArg (fun x:List (Fin n)=>(x.map (·.1)).take pre.length) hr;simp only[FQ,ak]at h2;rw[List.take_left' (by simp)]at h2;rw[h2];apply aO
 .simp;omega
 .intro j h1 h3;simp
theorem vI {L m:List Nd}{i:Nat}:∀ {k:Nat} {l' m':List Nd},iI nA nB (bare L) m i k= .on l' m'->l'=bare (j5 nA L i k)
 | 0,l',m',h=>by unfold iI at h;injection h with h1 h2;subst h1;subst h2;rfl
 | k + 1,l',m',h=>by
   unfold iI at h
   cases hb:iI nA nB (bare L) m i k with
   | off d=>rw[hb]at h;cases h
   | on l2 m2=>
     have e:=vI hb;subst e;rw[hb]at h;simp only[mK]at h;split at h
     .injection h with h1 h2;subst h1;subst h2;exact mo _ _ _ _ _
     .cases h
end
end
end Go.Proofs.YtlkahgagmfhdaaaGreatDoor
