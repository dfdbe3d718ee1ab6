import Derived.Test.YtlkahgagmfhdaaaGreatDoorJAlloc
import Derived.Test.YtlkahgagmfhdaaaGreatDoorJCopy
set_option linter.unusedVariables false
set_option linter.unusedSectionVars false
open List renaming getD_eq_getElem?_getD→ae,replicate→af,getD_cons_succ→ag,getElem?_eq_getElem→ah,not_mem_nil→ai,mem_cons→aj,getElem?_cons_zero→ak,mem_append→aq,getElem?_toArray→ar,length_append→aw,cons_append→ax,getElem?_eq_none→ay,getD_cons_zero→az,getElem_mem→aB,getElem?_append_right→aC,getElem?_append_left→aD,mem_or_eq_of_mem_set→aG,eq_of_mem_replicate→aH,set_cons_succ→aI,append_assoc→aJ,length_replicate→aM,append_nil→aO,flatMap_append→aP,nodup_append→aQ,map_append→aT,set_append_right→aU,mem_cons_of_mem→aV,map_cons→aX,replicate_succ→aY,getElem?_take→aZ,take_length→a_,length_cons→bg,length_take→bi,length_set→bk,drop_left→bp,nodup_nil→bq,map_nil→bt
open Bool renaming and_eq_true→au,or_eq_true→aF,true_and→aW,not_eq_true'→a8
open Nat renaming add_comm→aA,le_refl→aK,add_assoc→aL,lt_or_ge→aN,add_zero→aR,add_sub_cancel_left→aS,mod_lt→bn,sub_self→bu,le_trans→bw
set_option maxRecDepth 100000
set_option maxHeartbeats 4000000
namespace Go.Proofs.YtlkahgagmfhdaaaGreatDoor
section
open Go.RowKit
structure Ob where
 x:Hd
 fs:List Nat
def Ob.ws (b:Ob):List Nat:=b.x.w0 :: b.x.cls :: b.x.ser :: b.fs
def Ob.ms (b:Ob):List Bool:=true :: af (2+b.fs.length) false
structure Ob.Ok (b:Ob):Prop where
 fit:b.x.Fit
 may:b.x.may=true
 size:b.x.size=b.fs.length
 f32:∀ f∈b.fs,f<4294967296
def fV (l:List Ob):List Nat:=l.flatMap Ob.ws
def iE (l:List Ob):List Bool:=l.flatMap Ob.ms
def eG (a:List Ob):Nat:=1+(fV a).length
structure HM.Laid (h:HM) (l:List Ob):Prop where
 words:h.words=0 :: fV l
 marks:h.starts=false :: iE l
 ok:∀ b∈l,b.Ok
theorem Ob.apt (b:Ob):b.ws.length=3+b.fs.length:=by simp[Ob.ws];omega
theorem Ob.aqb (b:Ob):b.ms.length=3+b.fs.length:=by simp[Ob.ms];omega
theorem km:fV []=[]:=rfl
theorem fD (b:Ob)(l:List Ob):fV (b :: l)=b.ws++fV l:=rfl
theorem jU (a b:List Ob):fV (a++b)=fV a++fV b:=aP
theorem vH (a b:List Ob):iE (a++b)=iE a++iE b:=aP
theorem nt (b:Ob)(l:List Ob):iE (b :: l)=b.ms++iE l:=rfl
theorem pB (l:List Ob):(iE l).length=(fV l).length:=by
 induction l with
 | nil=>rfl
 | cons b l ih=>simp[nt,fD,b.apt,b.aqb,ih]
theorem qw (a:List Ob)(b:Ob):eG (a++[b])=eG a+3+b.fs.length:=by
 simp[eG,jU,fD,km,b.apt];omega
theorem zM (l:List Ob)(i:Nat):(iE l).getD i false=true↔∃ a b c,l=a++b :: c/\i=(fV a).length:=by
 induction l generalizing i with
 | nil=>simp[iE]
 | cons b l ih=>
   rw[nt];by_cases h0:i=0
   .subst h0;exact⟨fun _=>⟨[],b,l,rfl,rfl⟩,fun _=>by simp[Ob.ms]⟩
   .by_cases h1:i<b.ms.length
    .constructor
     .intro h;rw[ae,aD h1]at h;obtain⟨j,rfl⟩ :∃ j,i=j+1:=⟨i-1,by omega⟩;unfold Ob.ms at h;rw[List.getElem?_cons_succ]at h;have hj:j<2+b.fs.length:=(by rw[b.aqb]at h1;omega);simp[hj]at h
     .rintro⟨a,b',c,he,rfl⟩
      cases a with
      | nil=>exact absurd rfl h0
      | cons a0 a=>
        rw[ax]at he;injection he with h2 h3;subst h2;simp[fD,b.apt,b.aqb]at h1;omega
    .rw[ae,aC (by omega),<-ae,ih];constructor
     .rintro⟨a,b',c,rfl,h2⟩;refine⟨b :: a,b',c,rfl,?_⟩;rw[fD,aw,b.apt,<-h2,b.aqb];rw[b.aqb]at h1;omega
     .rintro⟨a,b',c,he,h2⟩
      cases a with
      | nil=>exact absurd h2 h0
      | cons a0 a=>
        rw[ax]at he;injection he with h3 h4;subst h3;refine⟨a,b',c,h4,?_⟩;rw[fD,aw,b.apt]at h2;rw[b.aqb];omega
theorem rM (a:List Ob):kH (2*eG a)=true:=(vM _).2 ⟨by unfold eG;omega,by omega⟩
theorem fT (a:List Ob):2*eG a/2=eG a:=by omega
theorem rz {α:Type}(a b:List α)(n:Nat)(d:α):(a++b).getD (a.length+n) d=b.getD n d:=by
 rw[ae,aC (by omega),aS,<-ae]
theorem oI {α:Type}(a b:List α)(n:Nat)(d:α)(h:n<a.length):(a++b).getD n d=a.getD n d:=by
 rw[ae,aD h,<-ae]
section
variable {h:HM}{l a c:List Ob}{b:Ob}
theorem HM.Laid.apr (L:h.Laid l)(o:Nat):h.isB o=true↔∃ a b c,l=a++b :: c/\o=2*eG a:=by
 unfold HM.isB;rw[au,vM,L.marks];constructor
 .rintro⟨⟨h1,h2⟩,h3⟩;obtain⟨j,hj⟩ :∃ j,o/2=j+1:=⟨o/2-1,by omega⟩;rw[hj,ag]at h3;obtain⟨a,b,c,h4,h5⟩:=(zM _ _).1 h3;exact⟨a,b,c,h4,by unfold eG;omega⟩
 .rintro⟨a,b,c,h4,rfl⟩;refine⟨(vM _).1 (rM a),?_⟩;rw[fT];unfold eG;rw[aA,ag];exact (zM _ _).2 ⟨a,b,c,h4,rfl⟩
theorem HM.Laid.aqf (L:h.Laid (a++b :: c))(j:Nat)(hj:j<3+b.fs.length):h.w (eG a+j)=b.ws.getD j 0:=by
 unfold HM.w eG;rw[L.words,jU,fD,aL,aA 1,ag,rz,oI _ _ _ _ (by rw[b.apt];exact hj)]
theorem HM.Laid.apP (L:h.Laid (a++b :: c)):b.Ok:=L.ok b (by simp)
theorem Yu (b:Ob):b.ws.getD 0 0=b.x.w0:=by unfold Ob.ws;rw[az]
theorem ada (b:Ob):b.ws.getD 1 0=b.x.cls:=by unfold Ob.ws;rw[ag,az]
theorem adb (b:Ob):b.ws.getD 2 0=b.x.ser:=by unfold Ob.ws;rw[ag,ag,az]
theorem adc (b:Ob)(j:Nat):b.ws.getD (j+3) 0=b.fs.getD j 0:=by unfold Ob.ws;rw[ag,ag,ag]
theorem Hy {x:Hd}(k:x.Fit):x.w0<536870912:=by
 obtain⟨h1,h2,h3,_,_⟩:=k;unfold Hd.w0;omega
theorem wk (k:b.Ok):gg b.x.w0 b.x.cls b.x.ser=b.x:=by
 obtain⟨⟨h1,h2,h3,h4,h5⟩,_,_,_⟩:=k;obtain⟨⟨n,t,s,cl,r⟩,fs⟩:=b;simp only[gg,Hd.w0]at*;congr 1 <;> omega
theorem HM.Laid.apF (L:h.Laid (a++b :: c)):h.hd (eG a)=b.x:=by
 unfold HM.hd;have e0:=L.aqf 0 (by omega);have e1:=L.aqf 1 (by omega);have e2:=L.aqf 2 (by omega);rw[aR]at e0;rw[e0,e1,e2,Yu,ada,adb];exact wk L.apP
theorem HM.Laid.aqp (L:h.Laid (a++b :: c))(j:Nat)(hj:j<b.fs.length):fw h (2*eG a) j=b.fs.getD j 0:=by
 unfold fw;rw[fT,aL,L.aqf _ (by omega),aA 3,adc]
theorem HM.Laid.words_len (L:h.Laid (a++b :: c)):h.words.length=eG a+3+b.fs.length+(fV c).length:=by
 rw[L.words,jU,fD];simp[eG,b.apt];omega
theorem HM.Laid.aqw (L:h.Laid (a++b :: c)):h.apS (eG a):=by
 have k:=L.apP;refine⟨?_,?_⟩
 .rw[L.apF,L.words_len,k.size];omega
 .have e0:=L.aqf 0 (by omega);have e1:=L.aqf 1 (by omega);have e2:=L.aqf 2 (by omega);rw[aR]at e0;rw[e0,e1,e2,Yu,ada,adb];unfold lL;rw[wk k,k.may];exact (aW _).trans (decide_eq_true (show b.x.w0<536870912 from Hy k.fit))
theorem HM.Laid.heads (L:h.Laid l):h.apu:=by
 intro i hi;rw[L.marks]at hi
 cases i with
 | zero=>simp at hi
 | succ j=>
   rw[ag]at hi;obtain⟨a,b,c,rfl,rfl⟩:=(zM _ _).1 hi;have:=L.aqw
   rwa[eG,aA]at this
theorem HM.Laid.apE (L:h.Laid (a++b :: c)):h.fields (2*eG a)=b.fs:=by
 unfold HM.fields;rw[fT,L.apF,L.apP.size,L.words,jU,fD];have:eG a+3=(0 :: fV a++[b.x.w0,b.x.cls,b.x.ser]).length:=by simp[eG];omega
 rw[this];have e:0 :: (fV a++(b.ws++fV c))=(0 :: fV a++[b.x.w0,b.x.cls,b.x.ser])++(b.fs++fV c):=by simp[Ob.ws]
 rw[e,bp,List.take_left'];rfl
end
theorem HM.aqM {h h':HM}(hs:h'.starts=h.starts)(o:Nat):h'.isB o=h.isB o:=by unfold HM.isB;rw[hs]
theorem HM.aqV {h h':HM}(hs:h'.starts=h.starts)(o:Nat):h'.apo o=h.apo o:=by unfold HM.apo;rw[HM.aqM hs]
theorem HM.aqC {h h':HM}(hs:h'.starts=h.starts)(o:Nat):h'.apc o=h.apc o:=by unfold HM.apc;rw[HM.aqM hs]
def HM.Le (h h':HM):Prop:=∀ o,h.isB o=true->h'.isB o=true
theorem HM.Le.cls {h h':HM}(k:h.Le h'){o:Nat}(ho:h.apo o=true):h'.apo o=true:=by
 unfold HM.apo at ho ⊢;simp only[aF]at ho ⊢;exact ho.imp_right (k o)
theorem HM.Le.val {h h':HM}(k:h.Le h'){o:Nat}(ho:h.apc o=true):h'.apc o=true:=by
 unfold HM.apc at ho ⊢;simp only[aF]at ho ⊢;exact ho.imp_right (k o)
theorem HM.aqN {h h':HM}{x:List Bool}(hs:h'.starts=h.starts++x):h.Le h':=by
 intro o ho;unfold HM.isB at ho ⊢;rw[au]at ho ⊢;refine⟨ho.1,?_⟩;have hl:o/2<h.starts.length:=by
  rcases aN (o/2) h.starts.length with h1|h1
  .exact h1
  .have:=ho.2;rw[ae,ay h1]at this;simp at this
 rw[hs,oI _ _ _ _ hl];exact ho.2
structure HM.apx (h:HM) (l:List Ob):Prop where
 cls:∀ b∈l,h.apo b.x.cls=true
 apU:∀ b∈l,b.x.apb=true->∀ f∈b.fs,h.apc f=true
 spare:∀ b∈l,b.x.fmt=2->ic b.fs b.x.spare=0
 aqs:∀ b∈l,1<=b.x.ser/\b.x.ser<=h.last
 nodup:(l.map (·.x.ser)).Nodup
 roots:∀ r∈h.roots,h.apc r=true
structure HM.Good (h:HM) (l:List Ob):Prop where
 fit:h.Fit
 laid:h.Laid l
 sound:h.apx l
theorem HM.aqZ {n:Nat}(h1:64<=n)(h2:n<=1048576)(hf:(HM.new n).Fit):(HM.new n).Good []:=
 ⟨hf,⟨rfl,rfl,fun _ h=>by cases h⟩,⟨fun _ h=>(by cases h),fun _ h=>(by cases h),fun _ h=>(by cases h),fun _ h=>(by cases h),bq,fun r hr=>by
   have:r=0:=aH hr;subst this;rfl⟩⟩
theorem HM.Good.push {h:HM}{l:List Ob}(G:h.Good l)(x:Hd)(ys:List Nat)(hx:x.Fit)(hm:x.may=true)(hc:h.apo x.cls=true)
 (hr:h.words.length+3+ys.length<=h.size)(hl:h.last<4294967295)(hs:x.size=ys.length)(h32:∀ f∈ys,f<4294967296)
 (hp:x.apb=true->∀ f∈ys,h.apc f=true)(hsp:x.fmt=2->ic ys x.spare=0):
 (h.apN x ys).Good (l++[⟨{ x with ser:=h.last+1 },ys⟩]):=by
 obtain⟨f,L,S⟩:=G;have hle:h.Le (h.apN x ys):=HM.aqN (x:=true :: af (2+x.size) false) rfl;refine⟨⟨f.lo,f.hi,?_,?_,?_,f.roots,?_,f.r32,?_⟩,⟨?_,?_,?_⟩,⟨?_,?_,?_,?_,?_,?_⟩⟩
 .simp[HM.apN];omega
 .simp[HM.apN];omega
 .have:=f.marks;simp[HM.apN,hs];omega
 .intro y hy;have w0:=Hy hx;simp only[HM.apN,aq,aj,ai,or_false]at hy;rcases hy with (hy|hy|hy|hy)|hy
  .exact f.w32 y hy
  .subst hy;omega
  .subst hy;exact hx.cls
  .subst hy;omega
  .exact h32 y hy
 .simp only[HM.apN];omega
 .simp only[HM.apN,L.words,jU,fD,km,Ob.ws,aO,ax,List.nil_append,aJ];rfl
 .simp only[HM.apN,L.marks,vH,nt,Ob.ms,ax,hs];simp[iE]
 .intro b hb;simp only[aq,aj,ai,or_false]at hb;rcases hb with hb|rfl
  .exact L.ok b hb
  .exact⟨⟨hx.size,hx.fmt,hx.spare,hx.cls,by simp only;omega⟩,hm,hs,h32⟩
 .intro b hb;simp only[aq,aj,ai,or_false]at hb;rcases hb with hb|rfl
  .exact hle.cls (S.cls b hb)
  .exact hle.cls hc
 .intro b hb;simp only[aq,aj,ai,or_false]at hb;rcases hb with hb|rfl
  .exact fun sw y hy=>hle.val (S.apU b hb sw y hy)
  .exact fun sw y hy=>hle.val (hp sw y hy)
 .intro b hb;simp only[aq,aj,ai,or_false]at hb;rcases hb with hb|rfl
  .exact S.spare b hb
  .exact hsp
 .intro b hb;simp only[aq,aj,ai,or_false]at hb;rcases hb with hb|rfl
  .have:=S.aqs b hb;simp only[HM.apN];omega
  .simp only[HM.apN];omega
 .rw[aT,aQ];refine⟨S.nodup,by simp,?_⟩;intro s hs s' hs';simp only[aX,bt,aj,ai,or_false]at hs';subst hs';rw[List.mem_map]at hs;obtain⟨b,hb,rfl⟩:=hs;have:=S.aqs b hb;omega
 .exact fun r hr=>hle.val (S.roots r hr)
theorem K_ {α β:Type}(g:α->β)(a c:List α)(b b':α)(hb:g b'=g b):(a++b' :: c).map g=(a++b :: c).map g:=by simp[hb]
theorem vG {α:Type}{a c:List α}{b b' x:α}(h:x∈a++b' :: c):x=b'\/x∈a++b :: c:=by
 simp only[aq,aj]at h ⊢;rcases h with h|h|h
 .exact .inr (.inl h)
 .exact .inl h
 .exact .inr (.inr (.inr h))
theorem UV {α:Type}(xs ys zs:List α)(k:Nat)(v:α)(hk:k<ys.length):(xs++(ys++zs)).set (xs.length+k) v=xs++(ys.set k v++zs):=by
 rw[aU _ _ (by omega),aS,List.set_append_left _ _ hk]
theorem HM.Laid.setAt {h:HM}{a c:List Ob}{b b':Ob}(L:h.Laid (a++b :: c))(k v:Nat)(hk:k<3+b.fs.length)(hw:b'.ws=b.ws.set k v)(hb:b'.Ok):
 HM.Laid { h with words:=h.words.set (eG a+k) v } (a++b' :: c):=by
 have hl:b'.fs.length=b.fs.length:=by have:=congrArg List.length hw;rw[bk,b.apt,b'.apt]at this;omega
 refine⟨?_,?_,?_⟩
 .show h.words.set (eG a+k) v=_;rw[L.words,jU,jU,fD,fD,hw];unfold eG;rw[aL,aA 1,aI,UV _ _ _ _ _ (by rw[b.apt];exact hk)]
 .show h.starts=_;rw[L.marks,vH,vH,nt,nt];unfold Ob.ms;rw[hl]
 .intro y hy;rcases vG (b:=b) hy with rfl|hy
  .exact hb
  .exact L.ok y hy
theorem HM.Good.setAt {h:HM}{a c:List Ob}{b b':Ob}(G:h.Good (a++b :: c))(k v:Nat)(hk:k<3+b.fs.length)(hv:v<4294967296)(hw:b'.ws=b.ws.set k v)(hb:b'.Ok)
 (h1:h.apo b'.x.cls=true)(h2:b'.x.apb=true->∀ f∈b'.fs,h.apc f=true)(h3:b'.x.fmt=2->ic b'.fs b'.x.spare=0)(h4:b'.x.ser=b.x.ser):
 HM.Good { h with words:=h.words.set (eG a+k) v } (a++b' :: c):=by
 obtain⟨f,L,S⟩:=G;have hs:HM.starts { h with words:=h.words.set (eG a+k) v }=h.starts:=rfl;refine⟨⟨f.lo,f.hi,?_,?_,?_,f.roots,?_,f.r32,f.l32⟩,L.setAt k v hk hw hb,⟨?_,?_,?_,?_,?_,?_⟩⟩
 .have:=f.one;simpa using this
 .have:=f.room;simpa using this
 .have:=f.marks;simpa using this
 .intro y hy;rcases aG hy with hy|rfl
  .exact f.w32 y hy
  .exact hv
 .intro y hy;rw[HM.aqV hs];rcases vG (b:=b) hy with rfl|hy
  .exact h1
  .exact S.cls y hy
 .intro y hy hp g hg;rw[HM.aqC hs];rcases vG (b:=b) hy with rfl|hy
  .exact h2 hp g hg
  .exact S.apU y hy hp g hg
 .intro y hy;rcases vG (b:=b) hy with rfl|hy
  .exact h3
  .exact S.spare y hy
 .intro y hy;rcases vG (b:=b) hy with rfl|hy
  .rw[h4];exact S.aqs b (by simp)
  .exact S.aqs y hy
 .rw[K_ (fun o:Ob=>o.x.ser) a c b b' h4];exact S.nodup
 .intro r hr;rw[HM.aqC hs];exact S.roots r hr
theorem HM.Good.aqe {h:HM}{a c:List Ob}{b:Ob}(G:h.Good (a++b :: c))(k v:Nat)(hk:k<b.fs.length)(hv:v<4294967296)
 (h2:b.x.apb=true->h.apc v=true)(h3:b.x.fmt=2->ic (b.fs.set k v) b.x.spare=0):
 (h.aqe (2*eG a) k v).Good (a++{ b with fs:=b.fs.set k v } :: c):=by
 have K:=G.laid.apP;have e:h.aqe (2*eG a) k v={ h with words:=h.words.set (eG a+(3+k)) v }:=by
  unfold HM.aqe;rw[fT,aL]
 rw[e];refine G.setAt (3+k) v (by omega) hv ?_ ⟨K.fit,K.may,by simp[K.size],?_⟩ (G.sound.cls b (by simp)) ?_ h3 rfl
 .show b.x.w0 :: b.x.cls :: b.x.ser :: b.fs.set k v=(b.x.w0 :: b.x.cls :: b.x.ser :: b.fs).set (3+k) v;rw[aA,aI,aI,aI]
 .intro f hf;rcases aG hf with hf|rfl
  .exact K.f32 f hf
  .exact hv
 .intro hp f hf;rcases aG hf with hf|rfl
  .exact G.sound.apU b (by simp) hp f hf
  .exact h2 hp
theorem FH (y:Nat)(ys:List Nat):fg (y :: ys)=jZ y++fg ys:=rfl
theorem IY (xs ys:List Nat):fg (xs++ys)=fg xs++fg ys:=aP
theorem Rh (bs:List Nat):mO bs=(List.range ((bs.length+3)/4)).map (iU bs):=by
 unfold mO l6;rw[a_]
section
variable {h:HM}{l:List Ob}
theorem HM.Good.apy (G:h.Good l)(x:Hd)(hx:x.Fit)(hm:x.may=true)(h0:x.spare=0)(he:h.apG x=0):
 (h.apy x).Good (l++[⟨{ x with ser:=h.last+1 },af x.size (h.fill x)⟩]):=by
 have hE:=he;have hl:h.last<4294967295:=by
  have:=G.fit.l32;unfold HM.apG at he;split at he
  .omega
  .split at he <;> omega
 unfold HM.apG at he;split at he
 .omega
 .rename_i h1;split at he
  .omega
  .rename_i h2;unfold HM.apy;rw[if_pos hE];have uH:h.apc (h.roots.getD 0 0)=true:=by
    apply G.sound.roots;have:=G.fit.roots;rw[ae,ah (by omega)];exact aB _
   refine G.push x _ hx hm (by simpa using h1) (by simp;omega) hl (by simp) ?_ ?_ (fun _=>by rw[h0];exact oC _)
   .intro f hf;rw[aH hf];unfold HM.fill;split
    .have:=G.fit.roots;apply G.fit.r32;rw[ae,ah (by omega)];exact aB _
    .omega
   .intro hp f hf;rw[aH hf,HM.fill,if_pos hp];exact uH
theorem UB {c:Nat}{f n:Int}(hc:c<4294967296)(h:j4 f n=true):(GJ c f n).Fit/\(GJ c f n).may=true:=by
 unfold j4 at h;simp only[au,decide_eq_true_eq]at h;obtain⟨⟨⟨h1,h2⟩,h3⟩,h4⟩:=h;unfold GJ;refine⟨⟨?_,?_,?_,hc,?_⟩,?_⟩
 .simp only;omega
 .simp only;omega
 .simp only;omega
 .simp only;omega
 .unfold Hd.may;simp only[au,aF,decide_eq_true_eq];exact⟨⟨⟨by omega,by omega⟩,by omega⟩,.inl trivial⟩
def HM.ap8 (h:HM)(c:Nat)(f n:Int):Nat:=if j4 f n then h.apG (GJ c f n) else 1
theorem HM.Good.apI (G:h.Good l)(c:Nat)(f n:Int)(hc:c<4294967296):∃ l',(h.apI c f n).Good l':=by
 unfold HM.apI;by_cases hok:j4 f n=true
 .rw[if_pos hok];by_cases he:h.apG (GJ c f n)=0
  .obtain⟨hx,hm⟩:=UB hc hok;exact⟨_,G.apy _ hx hm rfl he⟩
  .unfold HM.apy;rw[if_neg he];exact⟨l,G⟩
 .rw[if_neg hok];exact⟨l,G⟩
theorem HM.Good.apQ (G:h.Good l)(o:Nat)(i:Int)(v:Nat)(hv:v<4294967296):∃ l',(h.apQ o i v).Good l'/\l'.map (·.x.ser)=l.map (·.x.ser):=by
 unfold HM.apQ;by_cases he:h.apT o i v=0
 .rw[if_pos he];unfold HM.apT at he;split at he
  .rename_i hk;split at he
   .rename_i hval;obtain⟨hi,hc,h0,hlt⟩:=HM.look_ok hk;obtain⟨a,b,c,rfl,rfl⟩:=(G.laid.apr o).1 hi;rw[fT,G.laid.apF]at hc hlt;have h2:b.x.fmt≠2:=fun e=>by rw[e]at hc;simp at hc
    have hlen:b.x.len=b.fs.length:=(by unfold Hd.len;rw[if_neg h2];exact G.laid.apP.size);refine⟨_,G.aqe i.toNat v (by omega) hv (fun _=>hval) (fun e=>absurd e h2),K_ _ _ _ _ _ rfl⟩
   .omega
  .omega
 .rw[if_neg he];exact⟨l,G,rfl⟩
end
theorem E5 (l:List Ob):3*l.length<=(fV l).length:=by
 induction l with
 | nil=>simp
 | cons b l ih=>rw[fD,aw,b.apt,bg];omega
end
section
open Go.RowKit
structure Dd where
 k:Int
 o:Nat
 v:Nat
 f:Int
 i:Int
 n:Int
 w:Nat
 b:List Nat
end
section
open Go.RowKit
def oM:Nat->List Nat->Option (List Ob)
 | 0,_=>none
 | _+1,[]=>some []
 | f+1,a :: b :: c :: r=>if lL a b c && decide ((gg a b c).size<=r.length) then (oM f (r.drop (gg a b c).size)).map (⟨gg a b c,r.take (gg a b c).size⟩ :: ·) else none
 | _+1,_=>none
def j2 (ws:List Nat):Option (List Ob):=oM (ws.length+1) ws
def ix:List Nat->Option (List Ob)
 | 0 :: r=>j2 r
 | _=>none
theorem xN:∀ (f g:Nat) (ws:List Nat),ws.length<f->ws.length<g->oM f ws=oM g ws
 | 0,_,_,h,_=>absurd h (by omega)
 | _,0,_,_,h=>absurd h (by omega)
 | f+1,g+1,[],_,_=>rfl
 | f+1,g+1,[_],_,_=>rfl
 | f+1,g+1,[_,_],_,_=>rfl
 | f+1,g+1,a :: b :: c :: r,h1,h2=>by
   unfold oM;split
   .rw[xN f g _ (by simp at h1 ⊢;omega) (by simp at h2 ⊢;omega)]
   .rfl
theorem Ae:j2 []=some []:=rfl
theorem vQ {ws:List Nat}(h0:ws≠[])(h3:ws.length<3):j2 ws=none:=by
 match ws,h0,h3 with
 | [_],_,_=>rfl
 | [_,_],_,_=>rfl
 | _ :: _ :: _ :: _,_,h=>simp at h;omega
theorem Ac {a b c:Nat}{r:List Nat}(h:lL a b c=false):j2 (a :: b :: c :: r)=none:=by
 unfold j2;unfold oM;rw[h,Bool.false_and,if_neg (by decide)]
theorem xO {a b c:Nat}{r:List Nat}(h:r.length<(gg a b c).size):j2 (a :: b :: c :: r)=none:=by
 unfold j2;unfold oM;rw[decide_eq_false (by omega),Bool.and_false,if_neg (by decide)]
theorem Nq {a b c:Nat}{r:List Nat}(h:lL a b c=true)(hs:(gg a b c).size<=r.length):
 j2 (a :: b :: c :: r)=(j2 (r.drop (gg a b c).size)).map (⟨gg a b c,r.take (gg a b c).size⟩ :: ·):=by
 unfold j2
 conv=>lhs;unfold oM
 rw[h,decide_eq_true hs,aW,if_pos rfl,xN _ ((r.drop (gg a b c).size).length+1) _ (by simp;omega) (by omega)]
theorem Ob.ok_of {a b c:Nat}{r:List Nat}(h:lL a b c=true)(hs:(gg a b c).size<=r.length)(hb:b<4294967296)(hc:c<4294967296)(hr:∀ x∈r,x<4294967296):
 Ob.Ok ⟨gg a b c,r.take (gg a b c).size⟩:=by
 unfold lL at h;rw[au]at h;exact⟨⟨bn _ (by omega),bn _ (by omega),bn _ (by omega),hb,hc⟩,h.1,by rw[bi];show (gg a b c).size=_;omega,fun f hf=>hr f (List.mem_of_mem_take hf)⟩
theorem UK {a b c:Nat}(h:lL a b c=true):(gg a b c).w0=a:=by
 unfold lL at h;simp only[au,decide_eq_true_eq]at h;have h2:=h.2;unfold Hd.w0 gg;show a%16777216+a/16777216%8*16777216+a/134217728%4*134217728=a;omega
theorem x_ {a b c:Nat}{r:List Nat}(h:lL a b c=true):(Ob.ws ⟨gg a b c,r.take (gg a b c).size⟩)++r.drop (gg a b c).size=a :: b :: c :: r:=by
 unfold Ob.ws;show (gg a b c).w0 :: b :: c :: r.take _++r.drop _=_;rw[UK h];simp
theorem UJ {b:Ob}(k:b.Ok):lL b.x.w0 b.x.cls b.x.ser=true:=by
 unfold lL;rw[wk k,k.may];exact (aW _).trans (decide_eq_true (Hy k.fit))
theorem Np {b:Ob}(k:b.Ok)(r:List Nat):j2 (b.ws++r)=(j2 r).map (b :: ·):=by
 unfold Ob.ws;rw[ax,ax,ax,Nq (UJ k) (by rw[wk k,k.size];simp),wk k,k.size,bp,List.take_left]
theorem Ag {l:List Ob}(k:∀ b∈l,b.Ok)(r:List Nat):j2 (fV l++r)=(j2 r).map (l ++ ·):=by
 induction l with
 | nil=>cases h:j2 r <;> simp[km,h]
 | cons b l ih=>
   rw[fD,aJ,Np (k b (by simp)),ih (fun b hb=>k b (aV _ hb)),Option.map_map];rfl
theorem Ah {l:List Ob}(k:∀ b∈l,b.Ok):ix (0 :: fV l)=some l:=by
 have:=Ag k [];rw[aO,Ae]at this;show j2 (fV l)=_;rw[this];simp
theorem Aa:∀ (f:Nat) (ws:List Nat) (l:List Ob),(∀ x∈ws,x<4294967296)->oM f ws=some l->ws=fV l/\∀ b∈l,b.Ok
 | 0,_,_,_,h=>by cases h
 | f+1,[],l,_,h=>by cases h;exact⟨rfl,fun _ hb=>by cases hb⟩
 | f+1,[_],l,_,h=>by cases h
 | f+1,[_,_],l,_,h=>by cases h
 | f + 1,a :: b :: c :: r,l,h32,h=>by
   unfold oM at h;split at h
   .rename_i hc;rw[au,decide_eq_true_eq]at hc;rw[Option.map_eq_some_iff]at h;obtain⟨l',h1,rfl⟩:=h;obtain⟨e,k⟩:=Aa f _ l' (fun x hx=>h32 x (by have:=List.mem_of_mem_drop hx;simp[this])) h1;refine⟨?_,?_⟩
    .rw[fD,<-e];exact (x_ hc.1).symm
    .intro o ho;rcases aj.1 ho with rfl|ho
     .exact Ob.ok_of hc.1 hc.2 (h32 b (by simp)) (h32 c (by simp)) (fun x hx=>h32 x (by simp[hx]))
     .exact k o ho
   .cases h
theorem uj {ws:List Nat}{l:List Ob}(h32:∀ x∈ws,x<4294967296)(h:ix ws=some l):ws=0 :: fV l/\∀ b∈l,b.Ok:=by
 unfold ix at h;split at h
 .rename_i r;obtain⟨e,k⟩:=Aa _ _ _ (fun x hx=>h32 x (aV _ hx)) h;exact⟨by rw[<-e],k⟩
 .cases h
def HM.apj (size:Nat)(words roots:List Nat)(last:Nat):HM:=⟨size,words,false :: iE ((ix words).getD []),roots,last⟩
def li (size:Nat)(words roots:List Nat)(last:Nat):Prop:=∃ l,ix words=some l/\(HM.apj size words roots last).apx l
theorem HM.apX {size:Nat}{words roots:List Nat}{last:Nat}{l:List Ob}(h1:64<=size)(h2:size<=1048576)(hw:∀ x∈words,x<4294967296)(hr:∀ x∈roots,x<4294967296)(VO:roots.length=64)
 (hl:last<4294967296)(hs:words.length<=size)(hp:ix words=some l)(S:(HM.apj size words roots last).apx l):(HM.apj size words roots last).Good l:=by
 obtain⟨e,k⟩:=uj hw hp;have e2:(HM.apj size words roots last).starts=false :: iE l:=by show false :: iE ((ix words).getD [])=_;rw[hp];rfl
 refine⟨⟨h1,h2,?_,hs,?_,VO,hw,hr,hl⟩,⟨e,e2,k⟩,S⟩
 .show 1<=words.length;rw[e];simp
 .rw[e2];show _=words.length;rw[e];simp[pB]
theorem HM.Good.apj {h:HM}{l:List Ob}(G:h.Good l):HM.apj h.size h.words h.roots h.last=h/\ix h.words=some l:=by
 have hp:ix h.words=some l:=by rw[G.laid.words];exact Ah G.laid.ok
 refine⟨?_,hp⟩;unfold HM.apj;rw[hp];show HM.mk h.size h.words (false :: iE l) h.roots h.last=h;rw[<-G.laid.marks]
structure Pre (ws:List Nat) (l:List Ob) (r:List Nat):Prop where
 eq:ws=0 :: (fV l++r)
 ok:∀ b∈l,b.Ok
theorem Pre.parse {ws r:List Nat}{l:List Ob}(p:Pre ws l r):ix ws=(j2 r).map (l ++ ·):=by rw[p.eq];exact Ag p.ok r
theorem Pre.len {ws r:List Nat}{l:List Ob}(p:Pre ws l r):ws.length=eG l+r.length:=by rw[p.eq];simp[eG];omega
theorem Pre.get {ws r:List Nat}{l:List Ob}(p:Pre ws l r)(j:Nat):ws.getD (eG l+j) 0=r.getD j 0:=by
 rw[p.eq];unfold eG;rw[aL,aA 1,ag,rz]
theorem Pre.next {ws r:List Nat}{l:List Ob}{a b c:Nat}(p:Pre ws l (a :: b :: c :: r))(h32:∀ x∈ws,x<4294967296)(h:lL a b c=true)(hs:(gg a b c).size<=r.length):
 Pre ws (l++[⟨gg a b c,r.take (gg a b c).size⟩]) (r.drop (gg a b c).size):=by
 have hm:∀ x∈a :: b :: c :: r,x<4294967296:=fun x hx=>h32 x (by rw[p.eq];simp at hx ⊢;right;right;exact hx);refine⟨?_,fun o ho=>?_⟩
 .rw[p.eq,jU,fD,km,aO,aJ,x_ h]
 .rcases aq.1 ho with ho|ho
  .exact p.ok o ho
  .simp only[aj,ai,or_false]at ho;subst ho;exact Ob.ok_of h hs (hm b (by simp)) (hm c (by simp)) (fun x hx=>hm x (by simp[hx]))
theorem Pre.start {r:List Nat}:Pre (0 :: r) [] r:=⟨by simp[km],fun _ h=>by cases h⟩
end
section
open Go.RowKit
def aaN (p:HP)(h:HM)(w:World)(e:Ending)(w':World):Prop:=
 ∃ b:Bool,e= .returned (.bool b)/\Step p p w w'/\(b=false->ix h.words=none)/\(b=true->∃ l,ix h.words=some l/\fO w' p { h with starts:=false :: iE l })
def Ku (p:HP)(h:HM)(w:World)(k:Nat)(wr:World):Prop:=
 Step p p w wr/\((∃ l r,Pre h.words l r/\k=eG l/\fO wr p { h with starts:=(false :: iE l)++af r.length false })\/
  (h.words.length<k/\ix h.words=none/\∃ st,st.length=h.starts.length/\fO wr p { h with starts:=st }))
theorem Pre.none {ws r:List Nat}{l:List Ob}(p:Pre ws l r)(h:j2 r=none):ix ws=none:=by rw[p.parse,h];rfl
theorem Pre.done {ws:List Nat}{l:List Ob}(p:Pre ws l []):ix ws=some l:=by rw[p.parse,Ae];simp
theorem Db (l:List Ob)(o:Ob)(n m:Nat)(hn:n=3+o.fs.length+m):
 ((false :: iE l)++af n false).set (eG l) true=(false :: iE (l++[o]))++af m false:=by
 subst hn;have hp:eG l=(false :: iE l).length:=by simp[eG,pB];omega
 rw[hp,aU _ _ (aK _),bu,show 3+o.fs.length+m=(2+o.fs.length+m)+1 by omega,aY,List.set_cons_zero,vH,nt];have e:af (2+o.fs.length+m) false=af (2+o.fs.length) false++af m false:=by rw[List.replicate_append_replicate]
 rw[e];simp[Ob.ms,iE]
theorem QK {w:World}{p:HP}{h:HM}(H:fO w p h)(f:h.Fit)(hs:eX w)(jQ:V8 p)(hst:h.starts=af h.words.length false):
 Calls Tryz.prog 172 #[ptr p.g] w (aaN p h w):=by
 have c0:=H.c0;have q0:w.cell? ⟨p.gw,0,none⟩=some (.int .u32 (h.words.getD 0 0:Nat)):=H.word f.one;have Jp:=f.one;have P8:h.words.length<=p.cw:=by have:=H.2.1;obtain⟨_,_,h1,_⟩:=this;simpa[eN] using h1
 have hcm:p.cw<=9223372036854775807:=by have:=H.2.1;obtain⟨_,_,_,h1,_⟩:=this;unfold maxLen at h1;exact h1
 have Br:=f.hi;have hroom:=f.room;have HF:=aa f;have HS:=aa hs;have S4:=aa jQ;have har:∀ (a:Addr) (c:Nat) (w:World),(Instr.arrayAt 248 (.slice (some a) 3 c)).run Tryz.prog w= .ok (.pointer (some a)) w:=fun a c w=>by
  have ht:Tryz.prog.underlying 248=some (.array 3 32):=Tryz.underlying248;simp[Instr.arrayAt,run_underlying ht]
 unfold ptr;by_cases h0:h.words.getD 0 0=0
 .obtain⟨r0,uH⟩ :∃ r0,h.words=0 :: r0:=by
   cases hw:h.words with
   | nil=>rw[hw]at Jp;simp at Jp
   | cons a r=>rw[hw]at h0;simp at h0;exact⟨r,by rw[h0]⟩
  rw[h0]at q0
  have Og:=aa (show Ku p h w 1 w from⟨Step.refl _ _,.inl ⟨[],r0,by rw[uH];exact Pre.start,rfl,by
   have e:(false :: iE [])++af r0.length false=h.starts:=(by rw[hst,uH];simp[iE,aY]);rw[e];exact H⟩⟩)
  have HH:=aa H;have HST:=aa hst;clear H f hs jQ hst uH h0;go_enter Tryz.func172,Tryz.ntmps172;go_wp2_with fail
  go_step3
  go_wp2_with fail
  go_step3
  go_wp2_with fail
  go_loopw [3,4,5] (fun i _ _ wr=>∃ k:Nat,i= .int .i64 k/\k<=20000000/\Ku p h w k wr) (fun i _ _ _=>h.words.length-(intOf i).toNat)
  case atStart=>exact⟨1,rfl,by omega,Og.o⟩
  case round=>
   clear q0 c0;obtain⟨k,rfl,amK,Jr,Mx⟩:=hrel;rcases Mx with ⟨l,r,hp,rfl,Hr⟩|⟨CT,hnone,st,Iw,Hr⟩
   .have c0:=Hr.c0;have hlen:=hp.len;have h32:=HF.o.w32;by_cases uH:r=[]
    .subst uH;have HD:=aa hp.done;have HX:=aa (show fO wr p { h with starts:=false :: iE l } by
      have e:(false :: iE l)++af ([]:List Nat).length false=false :: iE l:=(by simp);rw[e]at Hr;exact Hr)
     simp only[List.length_nil,aR]at hlen;rw[<-hlen]at*;have hdec:decide (h.words.length<h.words.length)=false:=(by simp);have Gc:((h.words.length:Int) == (h.words.length:Int))=true:=(by simp);clear hp Hr h32;go_wp2_with fail;go_ret;exact⟨true,rfl,Jr,(fun e=>by cases e),fun _=>⟨l,HD.o,HX.o⟩⟩
    .by_cases hr3:r.length<3
     .have HN:=aa (hp.none (vQ uH hr3));have Uo:0<r.length:=List.length_pos_iff.2 uH;clear hp uH h32;generalize eG l=k at*;generalize r.length=m at*;have hdec:decide (k<h.words.length)=true:=(by simp;omega);have KV:((h.words.length:Nat):Int)<(k:Int)+3:=(by omega);have Gc:((k:Int) == (h.words.length:Int))=false:=(by simp;omega);clear Hr hlen;go_wp2_with fail;go_ret;exact⟨false,rfl,Jr,fun _=>HN.o,fun e=>by cases e⟩
     .obtain⟨a,b,c,r',rfl⟩ :∃ a b c r',r=a :: b :: c :: r':=by
       match r,hr3 with
       | a :: b :: c :: r',_=>exact⟨a,b,c,r',rfl⟩
       | [],h=>simp at h
       | [_],h=>simp at h
       | [_,_],h=>simp at h
      have hm:∀ x∈a :: b :: c :: r',x<4294967296:=fun x hx=>h32 x (by rw[hp.eq];simp at hx ⊢;right;right;exact hx);have ba:=hm a (by simp);have bb:=hm b (by simp);have bc:=hm c (by simp);have g0:=hp.get 0;have g1:=hp.get 1;have g2:=hp.get 2;simp only[aR,az,ag]at g0 g1 g2;have q0:=Hr.word (i:=eG l) (by show eG l<h.words.length;simp at hlen;omega);have q1:=Hr.word (i:=eG l+1) (by show eG l+1<h.words.length;simp at hlen;omega);have q2:=Hr.word (i:=eG l+2) (by show eG l+2<h.words.length;simp at hlen;omega);replace q0:wr.cell? ⟨p.gw,eG l,none⟩=some (.int .u32 (a:Int)):=(by rw[<-g0];exact q0);replace q1:wr.cell? ⟨p.gw,eG l+1,none⟩=some (.int .u32 (b:Int)):=(by rw[<-g1];exact q1);replace q2:wr.cell? ⟨p.gw,eG l+2,none⟩=some (.int .u32 (c:Int)):=(by rw[<-g2];exact q2);clear g0 g1 g2 uH hr3;have Ue:p.g<wr.heap.size:=Hr.lt (.inl rfl);have hgw:p.gw<wr.heap.size:=Hr.lt (.inr (.inl rfl));have hgs:p.gs<wr.heap.size:=Hr.lt (.inr (.inr (.inl rfl)));have n1:wr.heap.size≠p.gw:=(by omega);have yX:=aa (Jr.apl S4.o HS.o);have hdec:decide (eG l<h.words.length)=true:=(by simp at hlen ⊢;omega);have KV:(eG l:Int)+3<=((h.words.length:Nat):Int):=(by simp at hlen;omega);cases hok:lL a b c
      .have HN:=aa (hp.none (Ac hok));have yT:=aa hok;clear hok hp hm h32;generalize eG l=k at*;clear hlen;go_wp2_with fail;refine (Kf a b c ba bb bc _ yX.o yT.o).mono ?_;rintro e w1 ⟨rfl,hb1⟩;have c1:=(Hr.below hb1).c0;have hsz:=hb1.size;have amC:p.g<w1.heap.size:=(by omega);have s1:=(Jr.ap_ hb1).alloc (.cells #[.int .i64 0,.int .i64 0,.int .i64 0,.int .u32 0,.int .u32 0] 75);have Gc:((k:Int) == (h.words.length:Int))=false:=(by simp at hdec ⊢;omega);clear q0 q1 q2 c0 Hr;go_wp2_with fail;go_ret;exact⟨false,rfl,s1,fun _=>HN.o,fun e=>by cases e⟩
      .have kJ:=rX a b c bb bc;have yT:=aa hok;have Su:=aa (show (false :: iE l++af (a :: b :: c :: r').length false).length=h.words.length by
        rw[aw,bg,pB,aM,hlen];unfold eG;omega)
       by_cases hsz:(gg a b c).size<=r'.length
       .have Ee:=aa (hp.next h32 hok hsz);have Tu:=aa (qw l ⟨gg a b c,r'.take (gg a b c).size⟩);have HMS:=aa (Db l ⟨gg a b c,r'.take (gg a b c).size⟩ (a :: b :: c :: r').length (r'.drop (gg a b c).size).length (by simp;omega));have HTL:=aa (show (r'.take (gg a b c).size).length=(gg a b c).size by simp;omega);have HLEN:=aa (show h.words.length=eG l+(r'.length+3) by simpa using hlen);clear hlen hm h32 hp;generalize eG l=k at*;have HU:=aa (uv a b c ba bb bc wr yX.o yT.o);have VX:(gg a b c).val= .agg #[.int .i64 (gg a b c).size,.int .i64 (gg a b c).fmt,.int .i64 (gg a b c).spare,.int .u32 (gg a b c).cls,.int .u32 (gg a b c).ser]:=rfl;rw[VX]at HU;clear VX hok;generalize gg a b c=x at*;obtain⟨f1,f2,f3,f4,f5⟩:=kJ;have Bt:k<h.words.length:=(by simpa using hdec);go_wp2_with fail;refine HU.o.mono ?_;rintro e w1 ⟨rfl,hb1⟩;have hb2:=hb1.alloc hb1.size (.cells #[.int .i64 x.size,.int .i64 x.fmt,.int .i64 x.spare,.int .u32 x.cls,.int .u32 x.ser] 75);have BH:=eW.new w1 75 #[.int .i64 x.size,.int .i64 x.fmt,.int .i64 x.spare,.int .u32 x.cls,.int .u32 x.ser];have TD:=Hr.below hb2;have c1:=TD.c1;have sl:(false :: iE l++af (a :: b :: c :: r').length false).length=h.words.length:=Su.o;simp only[sl]at c1;have m1:=TD.mark (i:=k) (by show k<(false :: iE l++af (a :: b :: c :: r').length false).length;rw[sl];exact Bt);have z1:=TD.2.2.1.frozen k;have nE:=aa (TD.aqc k true);have ST2:=aa ((Jr.ap_ hb2).setCell (a:=⟨p.gs,k,none⟩) (.inl (.inr (.inr (.inl rfl)))) (.bool true));have hne:p.gs≠w1.heap.size:=(by have:=hb1.size;omega);obtain⟨d0,-,-,-,-⟩:=(BH.far (p:=⟨p.gs,k,none⟩) (fun e=>hne e.symm) (.bool true)).apd;clear q0 q1 q2 c0 sl hb1 BH
        dsimp only at m1
        generalize (false :: iE l++af (a :: b :: c :: r').length false).getD k false=mb at m1;have hk4:(k:Int)<((h.words.length:Nat):Int):=(by omega);go_wp2_with fail;go_roundw
        case rel=>
         have hl:=HLEN.o;refine⟨k+(3+x.size),by go_num,by omega,ST2.o,.inl ⟨l++[⟨x,r'.take x.size⟩],r'.drop x.size,Ee.o,by rw[Tu.o,HTL.o];omega,?_⟩⟩;have e:=nE.o;rw[HMS.o]at e;exact e
        case measure=>simp[intOf];omega
       .have HN:=aa (hp.none (xO (by omega)));have HLEN:=aa (show h.words.length=eG l+(r'.length+3) by simpa using hlen);clear hlen hm h32 hp;generalize eG l=k at*;have HU:=aa (uv a b c ba bb bc wr yX.o yT.o);have VX:(gg a b c).val= .agg #[.int .i64 (gg a b c).size,.int .i64 (gg a b c).fmt,.int .i64 (gg a b c).spare,.int .u32 (gg a b c).cls,.int .u32 (gg a b c).ser]:=rfl;rw[VX]at HU;clear VX hok;generalize gg a b c=x at*;obtain⟨f1,f2,f3,f4,f5⟩:=kJ;have Bt:k<h.words.length:=(by simpa using hdec);go_wp2_with fail;refine HU.o.mono ?_;rintro e w1 ⟨rfl,hb1⟩;have hb2:=hb1.alloc hb1.size (.cells #[.int .i64 x.size,.int .i64 x.fmt,.int .i64 x.spare,.int .u32 x.cls,.int .u32 x.ser] 75);have BH:=eW.new w1 75 #[.int .i64 x.size,.int .i64 x.fmt,.int .i64 x.spare,.int .u32 x.cls,.int .u32 x.ser];have TD:=Hr.below hb2;have c1:=TD.c1;have sl:(false :: iE l++af (a :: b :: c :: r').length false).length=h.words.length:=Su.o;simp only[sl]at c1;have m1:=TD.mark (i:=k) (by show k<(false :: iE l++af (a :: b :: c :: r').length false).length;rw[sl];exact Bt);have z1:=TD.2.2.1.frozen k;have nE:=aa (TD.aqc k true);have ST2:=aa ((Jr.ap_ hb2).setCell (a:=⟨p.gs,k,none⟩) (.inl (.inr (.inr (.inl rfl)))) (.bool true));have hne:p.gs≠w1.heap.size:=(by have:=hb1.size;omega);obtain⟨d0,-,-,-,-⟩:=(BH.far (p:=⟨p.gs,k,none⟩) (fun e=>hne e.symm) (.bool true)).apd;clear q0 q1 q2 c0 sl hb1 BH
        dsimp only at m1
        generalize (false :: iE l++af (a :: b :: c :: r').length false).getD k false=mb at m1;have hk4:(k:Int)<((h.words.length:Nat):Int):=(by omega);go_wp2_with fail;go_roundw
        case rel=>
         have hl:=HLEN.o;refine⟨k+(3+x.size),by go_num,by omega,ST2.o,.inr ⟨by omega,HN.o,_,?_,nE.o⟩⟩;rw[bk,Su.o,HF.o.marks]
        case measure=>simp[intOf];omega
   .have c0:=Hr.c0;have hdec:decide (k<h.words.length)=false:=(by simp;omega);have Gc:((k:Int) == (h.words.length:Int))=false:=(by simp;omega);have HN:=aa hnone;clear hnone;go_wp2_with fail;go_ret;exact⟨false,rfl,Jr,fun _=>HN.o,fun e=>by cases e⟩
 .have hb:((h.words.getD 0 0:Int) != 0)=true:=by rw[bne_iff_ne];omega
  have HN:=aa (show ix h.words=none by
   unfold ix;split
   .rename_i hw;rw[hw]at h0;simp at h0
   .rfl)
  generalize h.words.getD 0 0=x at*;clear h0;go_enter Tryz.func172,Tryz.ntmps172;go_wp2_with fail
  go_step3
  go_wp2_with fail;rw[Exit.noGoto_ret];go_ret;exact⟨false,rfl,Step.refl _ _,fun _=>HN.o,fun e=>by cases e⟩
end
section
open Go.RowKit Go.Maps
structure HM.aql (h:HM) (b:Ob):Prop where
 cls:h.apo b.x.cls=true
 apU:b.x.apb=true->∀ f∈b.fs,h.apc f=true
 spare:b.x.fmt=2->ic b.fs b.x.spare=0
 lo:1<=b.x.ser
 hi:b.x.ser<=h.last
def HM.aqu (h:HM)(a:List Ob):Prop:=(∀ b∈a,h.aql b)/\(a.map (·.x.ser)).Nodup
theorem HM.ap6 (h:HM)(l:List Ob):h.apx l↔h.aqu l/\∀ r∈h.roots,h.apc r=true:=
 ⟨fun s=>⟨⟨fun b hb=>⟨s.cls b hb,s.apU b hb,s.spare b hb,(s.aqs b hb).1,(s.aqs b hb).2⟩,s.nodup⟩,s.roots⟩,
  fun s=>⟨fun b hb=>(s.1.1 b hb).cls,fun b hb=>(s.1.1 b hb).apU,fun b hb=>(s.1.1 b hb).spare,fun b hb=>⟨(s.1.1 b hb).lo,(s.1.1 b hb).hi⟩,s.1.2,s.2⟩⟩
theorem HM.apC {h:HM}{a c:List Ob}{b:Ob}(hn:¬ h.aql b):¬ h.apx (a++b :: c):=fun s=>hn (((h.ap6 _).1 s).1.1 b (by simp))
theorem HM.aqE {h:HM}{a c:List Ob}{b:Ob}(hn:b.x.ser∈a.map (·.x.ser)):¬ h.apx (a++b :: c):=fun s=>by
 have:=s.nodup;rw[aT,aX,aQ]at this;exact this.2.2 _ hn _ (by simp) rfl
theorem HM.aqO (h:HM):h.aqu []:=⟨(fun _ hb=>by cases hb),bq⟩
theorem HM.aqu.snoc {h:HM}{a:List Ob}{b:Ob}(u:h.aqu a)(ho:h.aql b)(hn:b.x.ser∉a.map (·.x.ser)):h.aqu (a++[b]):=by
 refine⟨fun y hy=>?_,?_⟩
 .rcases aq.1 hy with hy|hy
  .exact u.1 y hy
  .simp only[aj,ai,or_false]at hy;exact hy ▸ ho
 .rw[aT,aQ];refine⟨u.2,by simp,?_⟩;intro s hs s' hs';simp only[aX,bt,aj,ai,or_false]at hs';subst hs';rintro rfl;exact hn hs
def lG (a:List Ob):Nat->Nat:=fun x=>if x∈a.map (·.x.ser) then 1 else 0
theorem FM {a:List Ob}{b:Ob}(hn:b.x.ser∉a.map (·.x.ser)):upd (lG a) b.x.ser 1=lG (a++[b]):=by
 funext y
 unfold upd lG;by_cases hy:y=b.x.ser
 .subst hy;rw[if_pos rfl,if_pos (by simp)]
 .rw[if_neg hy];have e:(y∈(a++[b]).map (·.x.ser))=(y∈a.map (·.x.ser)):=by simp[hy]
  simp only[e]
theorem qE:CA 309 32:=⟨Tryz.underlying309,Tryz.underlying32⟩
def mZ (a c:List Ob):Nat:=if c=[] then 0 else 2*eG a
theorem HM.Laid.aqk {h:HM}{a c:List Ob}(L:h.Laid (a++c)):h.apD (eG a)=mZ a c:=by
 have hw:h.words.length=eG a+(fV c).length:=by rw[L.words,jU];simp[eG];omega
 unfold HM.apD mZ
 cases c with
 | nil=>rw[if_pos (by rw[hw];simp[km]),if_pos rfl]
 | cons b c=>
   rw[if_neg (by rw[hw,fD];simp[b.apt];omega),if_neg (by simp)]
theorem HM.Laid.aqr {h:HM}{a c:List Ob}{b:Ob}(L:h.Laid (a++b :: c)):h.ap3 (2*eG a)=mZ (a++[b]) c:=by
 unfold HM.ap3;rw[fT,L.apF,L.apP.size,<-qw];exact HM.Laid.aqk (by rw[aJ];exact L)
theorem fO.fields {w:World}{p:HP}{h:HM}{a c:List Ob}{b:Ob}(H:fO w p h)(L:h.Laid (a++b :: c)){B:Nat}(hB:p.gw<B):eQ w B 1 (some ⟨p.gw,eG a+3,none⟩) b.fs.length (eN b.fs):=
 ⟨by simp[eY],fun _=>⟨_,rfl,hB,fun j u hj=>by
   have XW:j<b.fs.length:=by
    rcases aN j b.fs.length with h1|h1
    .exact h1
    .rw[ay (by rw[eY];exact h1)]at hj;cases hj
   rw[ft XW]at hj;injection hj with hj;subst hj;rw[WideShapes.add_plain];have Gt:=L.words_len;have:=H.word (i:=eG a+3+j) (by omega);rw[this];have e:=L.aqp j XW;unfold fw at e;rw[fT]at e;rw[<-e];rfl⟩⟩
def HM.apq (h:HM)(a:List Ob)(b:Ob):Bool:=decide (b.x.ser=0) || decide (h.last<b.x.ser) || decide (b.x.ser∈a.map (·.x.ser)) || !h.apo b.x.cls
theorem HM.aqA {h:HM}{a c:List Ob}{b:Ob}(hb:h.apq a b=true):¬ h.apx (a++b :: c):=by
 unfold HM.apq at hb;simp only[aF,decide_eq_true_eq,a8]at hb;rcases hb with ((hb|hb)|hb)|hb
 .exact HM.apC fun k=>by have:=k.lo;omega
 .exact HM.apC fun k=>by have:=k.hi;omega
 .exact HM.aqE hb
 .exact HM.apC fun k=>by have:=k.cls;rw[hb]at this;cases this
theorem HM.aqI {h:HM}{a:List Ob}{b:Ob}(hb:h.apq a b=false):1<=b.x.ser/\b.x.ser<=h.last/\b.x.ser∉a.map (·.x.ser)/\h.apo b.x.cls=true:=by
 unfold HM.apq at hb;simp only[Bool.or_eq_false_iff,decide_eq_false_iff_not,Bool.not_eq_false']at hb;exact⟨by omega,by omega,hb.1.2,hb.2⟩
def Pp (h:HM)(l:List Ob)(w:World)(e:Ending)(w':World):Prop:=∃ b:Bool,e= .returned (.bool b)/\(b=true↔h.apx l)/\Below w.heap.size w w'
def jN (h:HM)(gm:Nat)(a:List Ob)(w wr:World):Prop:=h.aqu a/\j3 32 wr gm a.length (lG a)/\Below w.heap.size w wr
theorem NT {w:World}{p:HP}{h:HM}{l:List Ob}(H:fO w p h)(f:h.Fit)(L:h.Laid l)(hs:eX w):
 Calls Tryz.prog 173 #[ptr p.g] w (Pp h l w):=by
 have SC:=@run_makeMap Tryz.prog;have hb0:=fun o=>(Below.refl w.heap.size w).alloc (aK _) o;have hW1:Below w.heap.size w ((w.alloc (.cells #[.pointer (some ⟨p.g,0,none⟩)] 23)).alloc (.map #[] 0)):=((Below.refl _ _).alloc (aK _) _).alloc (by simp) _;have j8:=aa hb0;have HH:=aa H;have HF:=aa f;have HL:=aa L;have HS:=aa hs;have Wv:=aa (fun (w':World) (hb:Below w.heap.size w w')=>wP (H.below hb) f);have HFO:=aa (show h.apD 1=mZ [] l from HM.Laid.aqk (a:=[]) L);clear hb0 H f L hs;unfold ptr at Wv ⊢;go_enter Tryz.func173,Tryz.ntmps173;go_wp2_with fail;refine (Wv.o _ hW1).mono ?_;rintro e w' ⟨rfl,rfl⟩;rw[HFO.o];have BB:=(eW.new w 23 #[.pointer (some ⟨p.g,0,none⟩)]).alloc (.map #[] 0);have MM:=j3.made (w.alloc (.cells #[.pointer (some ⟨p.g,0,none⟩)] 23)) 32;rw[World.size_alloc]at MM;generalize hW:(w.alloc (.cells #[.pointer (some ⟨p.g,0,none⟩)] 23)).alloc (.map #[] 0)=W1 at*;clear hW;have Og:=aa (show jN h (w.heap.size+1) [] w W1 from⟨h.aqO,MM,hW1⟩);have SU:=aa BB;have wE:=aa hW1;clear BB MM hW1;go_wp2_with fail;have hmf:∀ (fn:Fn) (first cap:Array Value) (w:World),(Instr.makeFunc fn first cap).run Tryz.prog w= .ok (.func fn first cap) w:=fun _ _ _ _=>rfl;have acn:w.heap.size≠p.gw:=by have:=HH.o.lt (.inr (.inl rfl));omega
 go_loopg [4] (l.length+1) (fun k o wr=>∃ a c,l=a++c/\k=c.length+1/\o= .int .u32 (mZ a c:Nat)/\jN h (w.heap.size+1) a w wr/\eW wr w.heap.size 23 #[.pointer (some ⟨p.g,0,none⟩)])
 case atStart=>exact⟨[],l,rfl,rfl,rfl,Og.o,SU.o⟩
 case round =>
  obtain⟨a,c,hl,EA,rfl,⟨QB,hmap,hb⟩,B_⟩:=hrel;have yR:=aa hl;have Tc:=aa EA;clear Og SU wE hl EA;have bx:=B_.cell 0;simp only[ar,ak]at bx
  cases c with
  | nil=>
    have ho:mZ a []=0:=rfl;rw[ho];have Hr:=HH.o.below hb;have c2:=Hr.c2;have Rr:=Hr.2.2.2.reads Hr.2.2.2.lt;rw[eY]at Rr;have VO:h.roots.length<=9223372036854775807:=(by rw[HF.o.roots];omega);have HC:=aa (wO Hr HF.o w.heap.size bx (some ⟨p.gr,0,none⟩) h.roots.length p.cr _ h.roots VO Rr HF.o.r32);have nE:=aa (show (!(h.roots.any fun o=> !h.apc o))=true↔h.apx l by
     rw[h.ap6,yR.o,aO];simp only[a8,List.any_eq_false];constructor
     .intro hh;exact⟨QB,fun r hr=>by have:=hh r hr;simpa using this⟩
     .intro hh r hr;have:=hh.2 r hr;simp[this])
    clear Rr QB hmap;unfold Fx at HC;generalize (h.roots.any fun o=> !h.apc o)=bb at*;go_wp2_with fail;refine HC.o.mono ?_;rintro e w' ⟨rfl,rfl⟩;go_wp2_with fail;go_ret;exact⟨!bb,rfl,nE.o,hb⟩
  | cons b c =>
    have L:=HL.o;rw[yR.o]at L;have ho:mZ a (b :: c)=2*eG a:=rfl;have SE:1<=eG a:=(by unfold eG;omega);rw[ho];have K:=L.apP;have Gt:eG a+3+b.x.size<=h.words.length:=(by have:=L.words_len;have:=K.size;omega);have hroom:=HF.o.room;have Br:=HF.o.hi;have Uf:=L.apF;have hda:=L.aqw;have Cp:=aa (fun w'=>tR p.g (2*eG a) (by omega) (rM a) w');rw[fT]at Cp;have pN:=aa (fun (w':World) (hb:Below w.heap.size w w')=>nK (HH.o.below hb) HF.o (HS.o.below hb) (eG a) hda);rw[Uf]at pN;have VX:b.x.val= .agg #[.int .i64 b.x.size,.int .i64 b.x.fmt,.int .i64 b.x.spare,.int .u32 b.x.cls,.int .u32 b.x.ser]:=rfl;rw[VX]at pN;unfold ptr at Cp pN;clear ho Uf hda VX;have hne:((2*eG a:Nat):Int)≠0:=(by omega);go_wp2_with fail;refine (Cp.o _).mono ?_;rintro e w' ⟨rfl,rfl⟩;go_wp2_with fail;refine (pN.o _ hb).mono ?_;rintro e w1 ⟨rfl,hb1⟩;have hb2:=eF hb (hb1.alloc hb1.size (.cells #[.int .i64 b.x.size,.int .i64 b.x.fmt,.int .i64 b.x.spare,.int .u32 b.x.cls,.int .u32 b.x.ser] 75));have yI:=(B_.below hb1 B_.lt).alloc (.cells #[.int .i64 b.x.size,.int .i64 b.x.fmt,.int .i64 b.x.spare,.int .u32 b.x.cls,.int .u32 b.x.ser] 75);have Ie:=eW.new w1 75 #[.int .i64 b.x.size,.int .i64 b.x.fmt,.int .i64 b.x.spare,.int .u32 b.x.cls,.int .u32 b.x.ser];have IJ:=(hmap.below hb1).below ((Below.refl _ _).alloc (aK _) (.cells #[.int .i64 b.x.size,.int .i64 b.x.fmt,.int .i64 b.x.spare,.int .u32 b.x.cls,.int .u32 b.x.ser] 75));have hgH:w.heap.size+1<w1.heap.size:=(by have:=hb1.size;have:=hmap.lt;omega);have fx:=K.fit;obtain⟨fs1,fs2,fs3,fs4,Sx⟩:=fx;clear B_ hb hb1 hmap bx;go_upto_region 7 with fail;generalize w1.alloc (.cells #[.int .i64 b.x.size,.int .i64 b.x.fmt,.int .i64 b.x.spare,.int .u32 b.x.cls,.int .u32 b.x.ser] 75)=W2 at*;generalize w1.heap.size=gH at*
    go_cut [7] (fun fv wx=>∃ A c',fv= .slice A b.x.size c'/\eQ wx w.heap.size 1 A b.x.size (eN b.fs)/\Below W2.heap.size W2 wx)
    case first=>
     have H2:=HH.o.below hb2;have c0:=H2.c0;have P8:h.words.length<=p.cw:=(by obtain⟨_,_,h1,_⟩:=H2.2.1;simpa[eN] using h1);have hcm:p.cw<=9223372036854775807:=(by obtain⟨_,_,_,h1,_⟩:=H2.2.1;unfold maxLen at h1;exact h1);have bx:=yI.cell 0;simp only[ar,ak]at bx;obtain⟨d0,-,-,-,-⟩:=Ie.apd;have hgw:=H2.lt (.inr (.inl rfl));have RF:=aa (H2.fields L (B:=w.heap.size) (HH.o.lt (.inr (.inl rfl))));rw[<-K.size]at RF;have oo:=ib (Below.refl W2.heap.size W2);clear L K H2 yI Ie IJ QB;generalize eG a=q at*;generalize b.x.size=n at*;by_cases hcq:p.cw=q+3
     .have hn0:n=0:=(by omega);subst hn0;have acW:h.words.length=q+3:=(by omega);have HZ:=aa hcq;have ani:q<=1048576:=(by omega);rw[hcq,acW]at c0;clear hcq Gt P8 hcm acW;have e1:(q:Int)+3<=((q+3:Nat):Int):=(by omega);have e2:(q:Int)+3<=(q:Int)+3+((0:Nat):Int):=(by omega);have e3:(q:Int)+3+((0:Nat):Int)<=((q+3:Nat):Int):=(by omega);have a1:IntKind.i64.wrap ((q:Int)+3)=(q:Int)+3:=IntWalk.i64_in _ (by omega);have a2:((q:Int)+3).toNat=q+3:=(by omega);have a3:(0:Int)<=(q:Int)+3:=by omega
      go_region
      all_goals go_wp2_with fail
      all_goals go_meet
      all_goals exact⟨_,_,(by first|rfl|rw[bu] | (trace_state;simp)),⟨RF.o.1,fun h0=>absurd h0 (by decide)⟩,oo⟩
     .have Um:¬ (p.cw=q+3):=hcq;have e0:¬ (p.cw-(q+3)=0):=(by omega);have e1:(q:Int)+3<=(p.cw:Int):=(by omega);have e2:(q:Int)+3<=(q:Int)+3+(n:Int):=(by omega);have e3:(q:Int)+3+(n:Int)<=(p.cw:Int):=(by omega);clear hcq
      go_region
      all_goals go_wp2_with fail
      all_goals go_meet
      all_goals exact⟨_,_,by rw[show q+3+n-(q+3)=n by omega],RF.o.drew,oo⟩
    case rest=>
     obtain⟨A,c',rfl,RA,hb3⟩:=hcut;have hb4:=eF hb2 hb3;have OG:=yI.below hb3 yI.lt;have Sd:=Ie.below hb3 Ie.lt;have Xk:=IJ.below hb3;have Sz:lG a b.x.ser<=1:=(by unfold lG;split <;> omega);have hal:a.length<9223372036854775807:=by
      have h1:=E5 a;have h2:eG a=1+(fV a).length:=rfl;omega
     have hlk:=Xk.look qE Sx;obtain⟨W4,CX,LQ,hg4⟩:=Xk.put qE (v:=lG a b.x.ser+1) Sx (by omega) hal;rw[show (((lG a b.x.ser+1:Nat)):Int)=(lG a b.x.ser:Int)+1 by omega]at CX;obtain⟨d0,d1,d2,d3,d4⟩:=Sd.apd;have iW:=hb4.grown hg4 hb4.size (fun k hk=>by cases hk;omega);have YW:eQ W4 w.heap.size 1 A b.x.size (eN b.fs):=RA.keep fun q hq=>(iW.cell hq).trans (hb4.cell hq).symm;have Kk:=OG.same (hg4.block w.heap.size OG.lt (by simp));have OE:=Sd.same (hg4.block gH Sd.lt (by intro e;injection e with e;omega));have uK:=aa (show lG a b.x.ser=if b.x.ser∈a.map (·.x.ser) then 1 else 0 from rfl);clear hb2 hb3 yI Ie IJ OG Sd RA;go_upto_region 9 with fail;clear hlk CX d0 d1 d2 d3 d4 hg4 Xk hb4
     go_cut [71] (fun v wx=>v= .bool (h.apq a b)/\Below W4.heap.size W4 wx)
     case first=>
      have Mu:=LQ.look qE Sx;rw[show upd (lG a) b.x.ser (lG a b.x.ser+1) b.x.ser=lG a b.x.ser+1 by simp[upd]]at Mu;have bx:=Kk.cell 0;simp only[ar,ak]at bx;obtain⟨d0,d1,d2,d3,d4⟩:=OE.apd;have H5:=HH.o.below iW;have c4:=H5.c4;have oo:=fun n=>below_drewN (Below.refl W4.heap.size W4) n;have pR:=aa (fun n=>CG (H5.drewN n) HF.o b.x.cls fs4);by_cases s0:b.x.ser=0
      .have HB:=aa (show h.apq a b=true by simp[HM.apq,s0]);rw[s0]at d4;clear Mu c4 H5 Kk OE LQ YW L K
       go_quiet (fail)
       all_goals go_wp2_with fail
       all_goals go_meet
       all_goals exact⟨by rw[HB.o],oo _⟩
      .have e0:((b.x.ser:Int) == 0)=false:=(by simp;omega);by_cases s1:h.last<b.x.ser
       .have HB:=aa (show h.apq a b=true by simp[HM.apq,s1]);have e1:decide (h.last<b.x.ser)=true:=(by simp;omega);clear Mu H5 Kk OE LQ YW L K s0 s1
        go_quiet (fail)
        all_goals go_wp2_with fail
        all_goals go_meet
        all_goals exact⟨by rw[HB.o],oo _⟩
       .have e1:decide (h.last<b.x.ser)=false:=(by simp;omega);by_cases s2:b.x.ser∈a.map (·.x.ser)
        .have HB:=aa (show h.apq a b=true by simp only[HM.apq,s2,decide_true,Bool.or_true,Bool.true_or]);rw[uK.o,if_pos s2]at Mu;have X1:∀ n,(Instr.lookup 309 (.map (some (w.heap.size+1))) (.int .u32 (b.x.ser:Int)) false).run Tryz.prog (W4.drewN n)= .ok (.int .i64 2) (W4.drewN n):=fun n=>by
          have:=(show j3 32 (W4.drewN n) _ _ _ from LQ).look qE Sx;rw[show upd (lG a) b.x.ser (lG a b.x.ser+1) b.x.ser=2 by simp[upd,uK.o,s2]]at this;exact this
         clear Mu H5 Kk OE LQ YW L K s0 s1 s2
         go_quiet (fail)
         all_goals go_wp2_with fail
         all_goals go_meet
         all_goals exact⟨by rw[HB.o],oo _⟩
        .have X1:∀ n,(Instr.lookup 309 (.map (some (w.heap.size+1))) (.int .u32 (b.x.ser:Int)) false).run Tryz.prog (W4.drewN n)= .ok (.int .i64 1) (W4.drewN n):=fun n=>by
          have:=(show j3 32 (W4.drewN n) _ _ _ from LQ).look qE Sx;rw[show upd (lG a) b.x.ser (lG a b.x.ser+1) b.x.ser=1 by simp[upd,uK.o,s2]]at this;exact this
         have HB:=aa (show h.apq a b = !h.apo b.x.cls by
          simp only[HM.apq,s0,s1,s2,decide_false,Bool.false_or])
         have nD:=aa (show ∀ n,Calls Tryz.prog 204 #[.pointer (some ⟨p.g,0,none⟩),.int .u32 (b.x.cls:Nat)] (W4.drewN n) fun e w'=>e= .returned (.bool (h.apo b.x.cls))/\w'=W4.drewN n from fun n=>(pR.o n).mono fun e w' ⟨h1,h2⟩=>⟨h1,h2.symm⟩);clear Mu H5 Kk OE LQ YW L K s0 s1 s2 pR;generalize h.apo b.x.cls=cb at*
         go_quiet ((go_at_call 204;exact Calls.quiet_of_same (nD.o _)))
         all_goals go_wp2_with fail
         all_goals go_meet
         all_goals exact⟨by rw[HB.o],oo _⟩
     case rest=>
      obtain⟨rfl,jV⟩:=hcut;have kT:=eF iW jV;have SK:=Kk.below jV Kk.lt;have Yv:=OE.below jV OE.lt;have MM7:=LQ.below jV;have RA7:eQ wc w.heap.size 1 A b.x.size (eN b.fs):=YW.keep fun q hq=>(kT.cell hq).trans (iW.cell hq).symm;clear jV Kk OE LQ YW iW;cases iY:h.apq a b
      .obtain⟨o1,o2,o3,o4⟩:=HM.aqI iY;have abG:lG a b.x.ser=0:=(by rw[uK.o,if_neg o3]);rw[abG]at MM7;have YV:j3 32 wc (w.heap.size+1) (a.length+1) (lG (a++[b])):=by
        have:=MM7;rw[Nat.zero_add,FM o3]at this;exact this
       have mn:=aa (fun (w':World) (hb:Below w.heap.size w w')=>zR (HH.o.below hb) HF.o HL.o.heads (HS.o.below hb) (2*eG a) (by omega));have hnv:h.apW (2*eG a)= .tuple #[.int .u32 (mZ (a++[b]) c:Nat),.int .i64 0]:=by
        unfold HM.apW;rw[if_pos ((L.apr _).2 ⟨a,b,c,rfl,rfl⟩),L.aqr]
       rw[hnv]at mn;unfold ptr at mn;have pn:=K.may;have hsz:=K.size;have h32:=K.f32;have hmx:b.x.size<=65535/\b.x.spare<=3/\(0<b.x.spare->0<b.x.size):=by
        unfold Hd.may at pn;simp only[au,aF,decide_eq_true_eq]at pn;omega
       have HO:=aa (show b.x.apb=(decide (b.x.fmt=1) || decide (b.x.fmt=4)) from rfl);have uM:=aa (fun w'=>vS b.x K.fit w');rw[show b.x.val= .agg #[.int .i64 b.x.size,.int .i64 b.x.fmt,.int .i64 b.x.spare,.int .u32 b.x.cls,.int .u32 b.x.ser] from rfl]at uM;obtain⟨d0,d1,d2,d3,d4⟩:=Yv.apd;clear uK abG hnv pn MM7 iY Sz;by_cases h2:b.x.fmt=2
       .have HU:=aa (qP (w:=wc) A b.x.size c' w.heap.size b.x.spare b.fs hmx.1 RA7 kT.size h32 hmx.2.1 hmx.2.2);have Ox:b.x.apb=false:=(by rw[HO.o,h2];rfl);rw[Ox]at uM;rw[h2]at d1 uM;have BM:=aa hsz;have H2:=aa h2;clear hsz h2;go_wp2_with fail;refine HU.o.mono ?_;rintro e wu hU;obtain⟨hbu,v,E,rfl,hV⟩:=LS.any hU;have l9:=eF kT hbu;have BX8:=SK.below hbu SK.lt;have V3:=Yv.below hbu Yv.lt;have MM9:=YV.below hbu;clear d0 d1 d2 d3 d4;obtain⟨d0,d1,d2,d3,d4⟩:=V3.apd;rw[H2.o]at d1;have HUV:=aa hV;clear hU hV hbu SK Yv YV kT RA7;by_cases hE:E=0
        .subst hE;have ob:h.aql b:=⟨o4,(fun e=>by rw[Ox]at e;cases e),(fun _=>by
          rcases HUV.o with ⟨e,_⟩|⟨_,e,_⟩
          .exact e
          .cases e),o1,o2⟩
         have OB:=aa ob;clear ob;go_wp2_with fail;refine (uM.o _).mono ?_;rintro e wp ⟨rfl,KR⟩;have lN:=eF l9 KR;have SL:=BX8.below KR BX8.lt;have Pk:=MM9.below KR;clear d0 d1 d2 d3 d4 KR BX8 V3 MM9 l9;have gS:jN h (w.heap.size+1) (a++[b]) w wp:=⟨QB.snoc OB.o o3,by rw[aw];exact Pk,lN⟩;have gN:=aa gS;have yN:=aa SL;have bx:=SL.cell 0;simp only[ar,ak]at bx;clear gS;go_wp2_with fail;refine (mn.o _ lN).mono ?_;rintro e wz ⟨rfl,KS⟩;have P7:=eF lN KS;have Zk:=yN.o.below KS yN.o.lt;have Ta:=aa (show jN h (w.heap.size+1) (a++[b]) w wz from⟨gN.o.1,gN.o.2.1.below KS,P7⟩);clear gN yN bx;go_wp2_with fail
         go_roundg (c.length+1)
         case measure=>rw[Tc.o];simp
         case rel=>exact⟨a++[b],c,by rw[yR.o];simp,rfl,rfl,Ta.o,Zk⟩
        .have iQ:=aa (show ¬ h.apx l by
          rw[yR.o];refine HM.apC fun k=>?_;rcases HUV.o with ⟨_,e,_⟩|⟨e,_,_⟩
          .exact hE e
          .have:=k.spare H2.o;rw[this]at e;cases e)
         have hEn:¬ ((E:Int)=0):=(by omega);clear hE d0 d1 d2 d3 d4;go_wp2_with fail;go_ret;exact⟨false,rfl,⟨(fun e=>by cases e),fun s=>absurd s iQ.o⟩,l9⟩
       .have hf2:((b.x.fmt:Int) == 2)=false:=(by simp;omega);cases Ox:b.x.apb
        .have OB:=aa (show h.aql b from⟨o4,(fun e=>by rw[Ox]at e;cases e),(fun e=>absurd e h2),o1,o2⟩);rw[Ox]at uM;have BM:=aa hsz;clear hsz h2 Ox;go_wp2_with fail;refine (uM.o _).mono ?_;rintro e wp ⟨rfl,KR⟩;have lN:=eF kT KR;have SL:=SK.below KR SK.lt;have Pk:=YV.below KR;clear d0 d1 d2 d3 d4 KR SK Yv YV kT;have gS:jN h (w.heap.size+1) (a++[b]) w wp:=⟨QB.snoc OB.o o3,by rw[aw];exact Pk,lN⟩;have gN:=aa gS;have yN:=aa SL;have bx:=SL.cell 0;simp only[ar,ak]at bx;clear gS;go_wp2_with fail;refine (mn.o _ lN).mono ?_;rintro e wz ⟨rfl,KS⟩;have P7:=eF lN KS;have Zk:=yN.o.below KS yN.o.lt;have Ta:=aa (show jN h (w.heap.size+1) (a++[b]) w wz from⟨gN.o.1,gN.o.2.1.below KS,P7⟩);clear gN yN bx;go_wp2_with fail
         go_roundg (c.length+1)
         case measure=>rw[Tc.o];simp
         case rel=>exact⟨a++[b],c,by rw[yR.o];simp,rfl,rfl,Ta.o,Zk⟩
        .rw[Ox]at uM;have BM:=aa hsz;have H2:=aa h2;have YO:=aa Ox;clear hsz h2 Ox;go_wp2_with fail;refine (uM.o _).mono ?_;rintro e wp ⟨rfl,KR⟩;have lN:=eF kT KR;have SL:=SK.below KR SK.lt;have Pk:=YV.below KR;have RA9:eQ wp w.heap.size 1 A b.x.size (eN b.fs):=RA7.keep fun q hq=>(lN.cell hq).trans (kT.cell hq).symm;clear d0 d1 d2 d3 d4 KR SK Yv YV kT RA7;go_wp2_with fail
         go_loopw [89] (fun i wq=>∃ k:Nat,k<=b.x.size/\i= .int .i64 k/\(∀ f∈b.fs.take k,h.apc f=true)/\wq=wp) (fun i _=>b.x.size-(intOf i).toNat)
         case atStart=>exact⟨0,by omega,rfl,(fun f hf=>by simp at hf),rfl⟩
         case round=>
          obtain⟨k,hk,rfl,hall,rfl⟩:=hrel;have OM:=aa hall;clear hall;by_cases hlt:k<b.x.size
          .obtain⟨ad,u0,rfl,hbl,hx,hcell⟩:=RA9.at_ hlt;have Bt:k<b.fs.length:=(by rw[<-BM.o];exact hlt);rw[ft Bt]at hx;injection hx with hx;subst hx;have hy:b.fs.getD k 0<4294967296:=by
            rw[ae,ah Bt];exact h32 _ (aB _)
           have kM:b.fs.getD k 0∈b.fs:=by
            rw[ae,ah Bt];exact aB _
           have K6:b.fs.take (k+1)=b.fs.take k++[b.fs.getD k 0]:=by
            rw[List.take_add_one,ae,ah Bt];rfl
           have tP:=aa (xn (HH.o.below lN) HF.o _ hy);unfold ptr at tP;have bx:=SL.cell 0;simp only[ar,ak]at bx;cases hv:h.apc (b.fs.getD k 0)
           .have iQ:=aa (show ¬ h.apx l by
             rw[yR.o];exact HM.apC fun k'=>by have:=k'.apU YO.o _ kM;rw[hv]at this;cases this)
            rw[hv]at tP;clear hv kM K6 Bt;generalize b.fs.getD k 0=y at*;go_wp2_with fail;refine tP.o.mono ?_;rintro e w' ⟨rfl,rfl⟩;go_wp2_with fail;go_ret;exact⟨false,rfl,⟨(fun e=>by cases e),fun s=>absurd s iQ.o⟩,lN⟩
           .have HNA:=aa (show ∀ f∈b.fs.take (k+1),h.apc f=true by
             rw[K6];intro f hf;rcases aq.1 hf with hf|hf
             .exact OM.o f hf
             .simp only[aj,ai,or_false]at hf;rw[hf];exact hv)
            rw[hv]at tP;clear hv kM K6 Bt;generalize b.fs.getD k 0=y at*;go_wp2_with fail;refine tP.o.mono ?_;rintro e w' ⟨rfl,rfl⟩;go_wp2_with fail;go_roundw
            case rel=>exact⟨k+1,by omega,by go_num,HNA.o,by first|trivial|rfl⟩
            case measure=>simp[intOf];omega
          .obtain rfl:k=b.x.size:=(by omega);have OB:=aa (show h.aql b from⟨o4,(fun _ f hf=>OM.o f (by rw[BM.o,a_];exact hf)),(fun e=>absurd e H2.o),o1,o2⟩);have gS:jN h (w.heap.size+1) (a++[b]) w _:=⟨QB.snoc OB.o o3,by rw[aw];exact Pk,lN⟩;have gN:=aa gS;have yN:=aa SL;have bx:=SL.cell 0;simp only[ar,ak]at bx;clear gS;go_wp2_with fail;refine (mn.o _ lN).mono ?_;rintro e wz ⟨rfl,KS⟩;have P7:=eF lN KS;have Zk:=yN.o.below KS yN.o.lt;have Ta:=aa (show jN h (w.heap.size+1) (a++[b]) w wz from⟨gN.o.1,gN.o.2.1.below KS,P7⟩);clear gN yN bx;go_wp2_with fail
           go_roundg (c.length+1)
           case measure=>rw[Tc.o];simp
           case rel=>exact⟨a++[b],c,by rw[yR.o];simp,rfl,rfl,Ta.o,Zk⟩
      .have iQ:=aa (show ¬ h.apx l by rw[yR.o];exact HM.aqA iY);clear iY;go_wp2_with fail;go_ret;exact⟨false,rfl,⟨(fun e=>by cases e),fun s=>absurd s iQ.o⟩,kT⟩
end
section
open Go.RowKit
theorem MU (F:Nat)(hF:F<=1048576)(w:World):
 (Instr.makeSlice 108 (.int .i64 (F:Int)) (.int .i64 (F:Int))).run Tryz.prog w= .ok (.slice (some ⟨w.heap.size,0,none⟩) F F) (w.alloc (.cells (fM (.bool false) F) 4)):=by
 obtain⟨i0,iF,hz0,hz1,hz2⟩:=info_parts wS;have:=mI (P:=Tryz.prog) 108 4 i0 _ Tryz.underlying108 iF hz0 .i64 .i64 F F (aK _) (by rw[hz2];omega) (by omega) w;have e:madeCells (Value.bool false).cells (F*1)=fM (.bool false) F:=by
  apply Array.ext
  .simp[madeCells,fM,Value.cells]
  .intro i h1 h2;simp[madeCells,fM,Value.cells,Nat.mod_one]
 rw[this,hz1,e]
theorem Jc (w:World)(F:Nat)(hF:F<=maxLen):Row (w.alloc (.cells (fM (.bool false) F) 4)) w.heap.size 4 F (bools (af F false)):=
 ⟨fM (.bool false) F,eW.new w _ _,by simp[bools],hF,by simp[fM],by simp[fM,bools]⟩
def wF (W w:World)(e:TypeId)(xs:List Value):Option (Nat × Nat)->Prop
 | none=>True
 | some (g,c)=>W.heap.size<=g/\Row w g e c xs
def Acc (W:World)(ws rs:List Nat)(w:World)(a b c:Option (Nat × Nat)):Prop:=
 Below W.heap.size W w/\wF W w 32 (eN ws) a/\wF W w 4 (bools (af ws.length false)) b/\wF W w 54 (eN rs) c
section
variable {W w w':World}{ws rs:List Nat}{a b c:Option (Nat × Nat)}
theorem wF.below {e:TypeId}{xs:List Value}(h:wF W w e xs a)(hb:Below w.heap.size w w'):wF W w' e xs a:=by
 cases a with
 | none=>trivial
 | some x=>exact⟨h.1,h.2.below hb⟩
theorem Acc.start (W:World)(ws rs:List Nat):Acc W ws rs W.drew none none none:=⟨ib (Below.refl _ _),trivial,trivial,trivial⟩
theorem Acc.below (h:Acc W ws rs w a b c)(hb:Below w.heap.size w w'):Acc W ws rs w' a b c:=
 ⟨eF h.1 hb,h.2.1.below hb,h.2.2.1.below hb,h.2.2.2.below hb⟩
theorem Acc.marks (h:Acc W ws rs w a none c)(hF:ws.length<=1048576):Acc W ws rs (w.alloc (.cells (fM (.bool false) ws.length) 4)) a (some (w.heap.size,ws.length)) c:=by
 have h2:=h.below ((Below.refl _ _).alloc (aK _) (.cells (fM (.bool false) ws.length) 4));exact⟨h2.1,h2.2.1,⟨h.1.size,Jc w ws.length (by simp only[maxLen];omega)⟩,h2.2.2.2⟩
end
def SP (W:World)(ws rs:List Nat)(b c:Option (Nat × Nat))(e:Ending)(w':World):Prop:=
 ∃ g cap,e= .returned (.slice (some ⟨g,0,none⟩) ws.length cap)/\Acc W ws rs w' (some (g,cap)) b c
def SN (W:World)(ws rs:List Nat)(a b:Option (Nat × Nat))(e:Ending)(w':World):Prop:=
 ∃ g cap,e= .returned (.slice (some ⟨g,0,none⟩) rs.length cap)/\Acc W ws rs w' a b (some (g,cap))
theorem LV {W w:World}{ws rs:List Nat}{b c:Option (Nat × Nat)}(h:Acc W ws rs w none b c)(ad:Addr)(n k:Nat)(hr:eQ W W.heap.size 1 (some ad) n (eN ws))(hn:0<n)(hm:n<=1048576):
 Calls Tryz.prog 100 #[.slice (some ad) n k] w (SP W ws rs b c):=by
 have hl:ws.length=n:=by have:=hr.1;rw[eY]at this;omega
 refine (I4 ad n k ((hr.below h.1).more h.1.size) (fU _) hn (by omega)).mono ?_;rintro e w' ⟨g,cap,rfl,hrow,mS,hb⟩;have h2:=h.below hb;exact⟨g,cap,by rw[eY],h2.1,⟨bw h.1.size mS,hrow⟩,h2.2.2.1,h2.2.2.2⟩
theorem LU {W w:World}{ws rs:List Nat}{a b:Option (Nat × Nat)}(h:Acc W ws rs w a b none)(ad:Addr)(n k:Nat)(hr:eQ W W.heap.size 1 (some ad) n (eN rs))(hn:0<n)(hm:n<=1048576):
 Calls Tryz.prog 131 #[.slice (some ad) n k] w (SN W ws rs a b):=by
 have hl:rs.length=n:=by have:=hr.1;rw[eY]at this;omega
 refine (I3 ad n k ((hr.below h.1).more h.1.size) (fU _) hn (by omega)).mono ?_;rintro e w' ⟨g,cap,rfl,hrow,mS,hb⟩;have h2:=h.below hb;exact⟨g,cap,by rw[eY],h2.1,h2.2.1,h2.2.2.1,⟨bw h.1.size mS,hrow⟩⟩
theorem Acc.heap {W w:World}{ws rs:List Nat}{g1 c1 g2 c2 g3 c3:Nat}(h:Acc W ws rs w (some (g1,c1)) (some (g2,c2)) (some (g3,c3)))(size last:Nat):
 fO (w.alloc (.cells #[.slice (some ⟨g1,0,none⟩) ws.length c1,.slice (some ⟨g2,0,none⟩) ws.length c2,.slice (some ⟨g3,0,none⟩) rs.length c3,.int .i64 size,.int .u32 last] 110))
  ⟨w.heap.size,g1,c1,g2,c2,g3,c3⟩ ⟨size,ws,af ws.length false,rs,last⟩/\(∀ k,HP.has ⟨w.heap.size,g1,c1,g2,c2,g3,c3⟩ k->W.heap.size<=k):=by
 obtain⟨hb,⟨h1,r1⟩,⟨h2,r2⟩,⟨h3,r3⟩⟩:=h;refine⟨⟨?_,r1.alloc _,r2.alloc _,r3.alloc _⟩,?_⟩
 .have:=eW.new w 110 #[.slice (some ⟨g1,0,none⟩) ws.length c1,.slice (some ⟨g2,0,none⟩) ws.length c2,.slice (some ⟨g3,0,none⟩) rs.length c3,.int .i64 size,.int .u32 last];simp only[aM];exact this
 .rintro k (rfl|rfl|rfl|rfl)
  .exact hb.size
  .exact h1
  .exact h2
  .exact h3
theorem Acc.close {W w:World}{ws rs:List Nat}{g1 c1 g2 c2 g3 c3 n m:Nat}(h:Acc W ws rs w (some (g1,c1)) (some (g2,c2)) (some (g3,c3)))(size last:Nat)(hn:ws.length=n)(hm:rs.length=m):
 ∃ p2:HP,Value.pointer (some ⟨w.heap.size,0,none⟩)= .pointer (some ⟨p2.g,0,none⟩)/\
   fO (w.alloc (.cells #[.slice (some ⟨g1,0,none⟩) n c1,.slice (some ⟨g2,0,none⟩) n c2,.slice (some ⟨g3,0,none⟩) m c3,.int .i64 size,.int .u32 last] 110)) p2 ⟨size,ws,af n false,rs,last⟩/\
   (∀ k,p2.has k->W.heap.size<=k)/\
   Below W.heap.size W (w.alloc (.cells #[.slice (some ⟨g1,0,none⟩) n c1,.slice (some ⟨g2,0,none⟩) n c2,.slice (some ⟨g3,0,none⟩) m c3,.int .i64 size,.int .u32 last] 110)):=by
 subst hn hm;obtain⟨h1,h2⟩:=h.heap size last;exact⟨_,rfl,h1,h2,h.1.alloc h.1.size _⟩
theorem fO.moved {W w:World}{p p2:HP}{h h2:HM}(H5:fO w p h)(H4:fO w p2 h2)(hb:Below W.heap.size W w)(hp:p.g<W.heap.size)(mU:∀ k,p2.has k->W.heap.size<=k):
 fO (((((w.setCell ⟨p.g,0,none⟩ (.slice (some ⟨p2.gw,0,none⟩) h2.words.length p2.cw)).setCell ⟨p.g,1,none⟩ (.slice (some ⟨p2.gs,0,none⟩) h2.starts.length p2.cs)).setCell ⟨p.g,2,none⟩ (.slice (some ⟨p2.gr,0,none⟩) h2.roots.length p2.cr)).setCell ⟨p.g,3,none⟩ (.int .i64 h2.size)).setCell ⟨p.g,4,none⟩ (.int .u32 h2.last))
  ⟨p.g,p2.gw,p2.cw,p2.gs,p2.cs,p2.gr,p2.cr⟩ h2/\
 Step p ⟨p.g,p2.gw,p2.cw,p2.gs,p2.cs,p2.gr,p2.cr⟩ W (((((w.setCell ⟨p.g,0,none⟩ (.slice (some ⟨p2.gw,0,none⟩) h2.words.length p2.cw)).setCell ⟨p.g,1,none⟩ (.slice (some ⟨p2.gs,0,none⟩) h2.starts.length p2.cs)).setCell ⟨p.g,2,none⟩ (.slice (some ⟨p2.gr,0,none⟩) h2.roots.length p2.cr)).setCell ⟨p.g,3,none⟩ (.int .i64 h2.size)).setCell ⟨p.g,4,none⟩ (.int .u32 h2.last)):=by
 have n1:p2.gw≠p.g:=fun e=>by have:=mU _ (.inr (.inl rfl));omega
 have n2:p2.gs≠p.g:=fun e=>by have:=mU _ (.inr (.inr (.inl rfl)));omega
 have n3:p2.gr≠p.g:=fun e=>by have:=mU _ (.inr (.inr (.inr rfl)));omega
 obtain⟨-,r1,r2,r3⟩:=H4;refine⟨⟨H5.1.apf _ _ _ _ _,((((r1.far n1 _).far n1 _).far n1 _).far n1 _).far n1 _,((((r2.far n2 _).far n2 _).far n2 _).far n2 _).far n2 _,((((r3.far n3 _).far n3 _).far n3 _).far n3 _).far n3 _⟩,?_⟩;have s:=(((((Step.apa (p:=p) hb).setCell (a:=⟨p.g,0,none⟩) (.inl (.inl rfl)) (.slice (some ⟨p2.gw,0,none⟩) h2.words.length p2.cw)).setCell (a:=⟨p.g,1,none⟩) (.inl (.inl rfl)) (.slice (some ⟨p2.gs,0,none⟩) h2.starts.length p2.cs)).setCell (a:=⟨p.g,2,none⟩) (.inl (.inl rfl)) (.slice (some ⟨p2.gr,0,none⟩) h2.roots.length p2.cr)).setCell (a:=⟨p.g,3,none⟩) (.inl (.inl rfl)) (.int .i64 h2.size)).setCell (a:=⟨p.g,4,none⟩) (.inl (.inl rfl)) (.int .u32 h2.last);refine⟨s.os,s.tape,s.output,s.size,s.block,rfl,?_⟩;rintro k (hk|hk|hk|hk)
 .exact .inl (.inl hk)
 .exact .inr (mU _ (.inr (.inl hk)))
 .exact .inr (mU _ (.inr (.inr (.inl hk))))
 .exact .inr (mU _ (.inr (.inr (.inr hk))))
noncomputable def jg (size:Nat)(ws rs:List Nat)(last:Nat):Nat:=
 open Classical in if ws.length=0\/size<ws.length\/rs.length≠64 then 1 else if li size ws rs last then 0 else 20
noncomputable def HM.apH (h:HM)(ws rs:List Nat)(last:Nat):HM:=if jg h.size ws rs last=0 then HM.apj h.size ws rs last else h
section
variable {size:Nat}{ws rs:List Nat}{last:Nat}
theorem C8 (h:ws.length=0\/size<ws.length\/rs.length≠64):jg size ws rs last=1:=by unfold jg;rw[if_pos h]
theorem vD (h:¬ (ws.length=0\/size<ws.length\/rs.length≠64))(hn:¬ li size ws rs last):jg size ws rs last=20:=by unfold jg;rw[if_neg h,if_neg hn]
theorem vE (h:¬ (ws.length=0\/size<ws.length\/rs.length≠64))(hn:li size ws rs last):jg size ws rs last=0:=by unfold jg;rw[if_neg h,if_pos hn]
theorem nT (h:ix ws=none):¬ li size ws rs last:=by rintro⟨l,h1,_⟩;rw[h]at h1;cases h1
theorem qo {l:List Ob}(h:ix ws=some l):li size ws rs last↔(HM.apj size ws rs last).apx l:=by
 constructor
 .rintro⟨l',h1,h2⟩;rw[h]at h1;cases h1;exact h2
 .exact fun s=>⟨l,h,s⟩
end
theorem yZ {w:World}{p:HP}{h:HM}(H:fO w p h)(f:h.Fit)(hs:eX w)(XP:∀ k,w.heap.size<=k->k≠0/\k≠0)
 (A:Option Addr)(n c:Nat)(ws:List Nat)(hn:n<=9223372036854775807)(hr:eQ w w.heap.size 1 A n (eN ws))(h32:∀ x∈ws,x<4294967296)
 (A':Option Addr)(n' c':Nat)(rs:List Nat)(hn':n'<=9223372036854775807)(hr':eQ w w.heap.size 1 A' n' (eN rs))(aq0:∀ x∈rs,x<4294967296)(last:Nat)(hl:last<4294967296):
 Calls Tryz.prog 94 #[ptr p.g,.slice A n c,.slice A' n' c',.int .u32 last] w (LR p (h.apH ws rs last) (.int .i64 (jg h.size ws rs last:Nat)) w):=by
 have hm:=aa (kg H (by have:=f.lo;omega) f.hi);have zC:ws.length=n:=by have:=hr.1;rw[eY]at this;omega
 have Cb:rs.length=n':=by have:=hr'.1;rw[eY]at this;omega
 have c3:=H.c3;have Ov:=f.lo;have Br:=f.hi;have HH:=aa H;have Be:=aa zC;have Tj:=aa Cb;unfold ptr at hm ⊢;by_cases iY:n=0\/h.size<n\/n'≠64
 .have HE:=aa (show jg h.size ws rs last=1/\h.apH ws rs last=h by
   have e:=C8 (size:=h.size) (ws:=ws) (rs:=rs) (last:=last) (by rw[zC,Cb];exact iY);exact⟨e,by unfold HM.apH;rw[if_neg (by omega)]⟩)
  clear H hr hr' h32 aq0 zC Cb;by_cases hb0:n=0
  .have hz:((n:Int) == 0)=true:=(by simp;omega);clear iY hb0;go_enter Tryz.func94,Tryz.ntmps94;go_wp2_with fail;refine hm.out.mono ?_;rintro e w' ⟨rfl,rfl⟩;go_wp2_with fail;go_ret;exact⟨p,by rw[HE.o.1];rfl,by rw[HE.o.2];exact HH.o,Step.refl _ _⟩
  .have hz:((n:Int) == 0)=false:=(by simp;omega);by_cases hb1:h.size<n
   .have hz1:decide (h.size<n)=true:=(by simpa using hb1);clear iY hb0 hb1;go_enter Tryz.func94,Tryz.ntmps94;go_wp2_with fail;refine hm.out.mono ?_;rintro e w' ⟨rfl,rfl⟩;go_wp2_with fail;go_ret;exact⟨p,by rw[HE.o.1];rfl,by rw[HE.o.2];exact HH.o,Step.refl _ _⟩
   .have hz1:decide (h.size<n)=false:=(by simpa using hb1);have hz2:((n':Int) != 64)=true:=(by rw[bne_iff_ne];omega);clear iY hb0 hb1;go_enter Tryz.func94,Tryz.ntmps94;go_wp2_with fail;refine hm.out.mono ?_;rintro e w' ⟨rfl,rfl⟩;go_wp2_with fail;go_ret;exact⟨p,by rw[HE.o.1];rfl,by rw[HE.o.2];exact HH.o,Step.refl _ _⟩
 .have CU:0<n:=by omega
  obtain rfl:n'=64:=by omega
  obtain⟨ad,rfl,-,-⟩:=hr.2 CU;obtain⟨Vp,rfl,-,-⟩:=hr'.2 (by omega);have hz:((n:Int) == 0)=false:=by simp;omega
  have hz1:decide (h.size<n)=false:=by simp;omega
  have Gn:=MU n (by omega);have Cr:=aa (fun (w1:World) (b c0:Option (Nat × Nat)) (ha:Acc w ws rs w1 none b c0)=>LV ha ad n c hr CU (by omega));have uL:=aa (fun (w1:World) (a b:Option (Nat × Nat)) (ha:Acc w ws rs w1 a b none)=>LU ha Vp 64 c' hr' (by omega) (by omega));have Yx:=aa (fun (w1:World) (a c0:Option (Nat × Nat)) (ha:Acc w ws rs w1 a none c0)=>ha.marks (by omega));have A0:=Acc.start w ws rs;have VM:=H.lt (.inl rfl);have nj:=aa (fun (w1:World) (hb:Below w.heap.size w w1)=>show w1.cell? ⟨p.g,3,none⟩=some (.int .i64 h.size) from (hb.cell VM).trans c3);have pS:=aa (fun (w1:World) (hb:Below w.heap.size w w1)=>show w1.heap.size≠p.g by have:=hb.size;omega);rw[zC]at Yx;have XT:=h32;have hhr:=aq0;clear H hr hr' h32 aq0 zC Cb;go_enter Tryz.func94,Tryz.ntmps94;go_wp2_with fail;refine hm.out.mono ?_;rintro e w' ⟨rfl,rfl⟩;have ZM:=aa XT;have HHR:=aa hhr;go_upto_region 3 with fail
  go_cut [9] (fun v wx=>∃ p2:HP,v= .pointer (some ⟨p2.g,0,none⟩)/\fO wx p2 ⟨h.size,ws,af n false,rs,last⟩/\(∀ k,p2.has k->w.heap.size<=k)/\Below w.heap.size w wx)
  case first=>
   have acn:w.heap.size≠p.g:=(by omega);have hc0:=nj.o w.drew A0.1;have ami:=nj.o (w.drew.alloc (.cells (fM (.bool false) n) 4)) (A0.1.alloc A0.1.size _)
   go_region_law (first
    | (go_simp;go_at_call 100;refine (Cr.o _ _ _ (by first|assumption|exact Yx.o _ _ _ (by assumption))).mono ?_;rintro e w1 ⟨g1,af0,rfl,U5⟩;rw[Be.o];have hc1:=nj.o _ U5.1;have amj:=nj.o (w1.alloc (.cells (fM (.bool false) n) 4)) (U5.1.alloc U5.1.size _);have Qq:=pS.o _ U5.1)
    | (go_simp;go_at_call 131;refine (uL.o _ _ _ (by first|assumption|exact Yx.o _ _ _ (by assumption))).mono ?_;rintro e w2 ⟨g2,aa3,rfl,Co⟩;rw[Tj.o];have hc2:=nj.o _ Co.1;have amk:=nj.o (w2.alloc (.cells (fM (.bool false) n) 4)) (Co.1.alloc Co.1.size _);have SD:=pS.o _ Co.1))
   all_goals go_wp2_with fail
   all_goals go_meet
   all_goals first
    | exact Acc.close (by assumption) h.size last Be.o Tj.o
    | (have mh:=Acc.close (Yx.o _ _ _ (by assumption)) h.size last Be.o Tj.o;rw[World.size_alloc]at mh;exact mh)
  case rest=>
   obtain⟨p2,rfl,H2,mU,hb2⟩:=hcut;have kJ:HM.Fit ⟨h.size,ws,af n false,rs,last⟩:=⟨Ov,Br,by show 1<=ws.length;rw[Be.o];omega,by show ws.length<=h.size;rw[Be.o];omega,by show (af n false).length=ws.length;rw[aM,Be.o],Tj.o,XT,hhr,hl⟩;have VB:¬ (ws.length=0\/h.size<ws.length\/rs.length≠64):=(by rw[Be.o,Tj.o];exact iY);have nE:=hs.below hb2;have abQ:V8 p2:=fun k hk=>XP k (mU k hk);have Ea:=aa (QK H2 kJ nE abQ (by show af n false=af ws.length false;rw[Be.o]));unfold ptr at Ea;have S5:=aa kJ;have V_:=aa VB;have hno:jg h.size ws rs last=20->(jg h.size ws rs last=20/\h.apH ws rs last=h):=fun e=>⟨e,by unfold HM.apH;rw[if_neg (by omega)]⟩;have qX:=aa hno;clear kJ VB hno XT hhr hz hz1 iY Gn;go_wp2_with fail;refine Ea.o.mono ?_;rintro e w3 ⟨b,rfl,s3,XI,hbt⟩;have kn:=aa XI;have HBT:=aa hbt;clear XI hbt;have hb3:=s3.below hb2 mU;cases b
   .have HE:=aa (qX.o (vD V_.o (nT (kn.o rfl))));go_wp2_with fail;go_ret;exact⟨p,by rw[HE.o.1];rfl,by rw[HE.o.2];exact HH.o.below hb3,.apa hb3⟩
   .obtain⟨l,hpl,H3⟩:=HBT.o rfl;have tO:=aa hpl;have hof:(⟨h.size,ws,false :: iE l,rs,last⟩ :HM)=HM.apj h.size ws rs last:=by
     unfold HM.apj;rw[hpl];rfl
    have hinv:=uj ZM.o hpl;have L3:HM.Laid ⟨h.size,ws,false :: iE l,rs,last⟩ l:=⟨hinv.1,rfl,hinv.2⟩
    have F3:HM.Fit ⟨h.size,ws,false :: iE l,rs,last⟩:=⟨Ov,Br,S5.o.one,S5.o.room,by
     show (false :: iE l).length=ws.length;rw[hinv.1];simp[pB],Tj.o,ZM.o,HHR.o,hl⟩
    have wD:=aa (NT H3 F3 L3 (hs.below hb3));unfold ptr at wD;have Tq:=aa hof;have H3':=aa H3;clear hpl hof hinv L3 F3 H3 Ea;go_wp2_with fail;refine wD.o.mono ?_;rintro e w4 ⟨b2,rfl,Qj,hb4⟩;have OX:=aa Qj;clear Qj;have iW:=eF hb3 hb4;cases b2
    .have HE:=aa (qX.o (vD V_.o (fun ok=>by
      have:=(qo tO.o).1 ok;rw[<-Tq.o]at this;exact absurd (OX.o.2 this) (by decide))))
     go_wp2_with fail;go_ret;exact⟨p,by rw[HE.o.1];rfl,by rw[HE.o.2];exact HH.o.below iW,.apa iW⟩
    .have hok:=vE V_.o ((qo tO.o).2 (by rw[<-Tq.o];exact OX.o.1 rfl));have HE:=aa (show jg h.size ws rs last=0/\h.apH ws rs last=HM.apj h.size ws rs last from⟨hok,by unfold HM.apH;rw[if_pos hok]⟩);clear hok;have H4:=H3'.o.below hb4;obtain⟨d0,d1,d2,d3,d4⟩:=H4.1.apd;have H5:=HH.o.below iW;obtain⟨e0,e1,e2,e3,e4⟩:=H5.1.apd;have ez:=H5.1.fz;have HMV:=aa (H5.moved H4 iW VM mU);have afo:=aa (HE.o.2.trans Tq.o.symm);clear H4 H5
     dsimp only at d0 d1 d2 d3 d4 HMV
     go_wp2_with fail;go_ret;exact⟨_,by rw[HE.o.1];rfl,by rw[afo.o];exact HMV.o.1,HMV.o.2⟩
end
section
open Go.RowKit
theorem nc (ys:List Nat):∀ k,k<ys.length->∀ r,r<4->(fg ys).getD (4*k+r) 0=(jZ (ys.getD k 0)).getD r 0:=by
 induction ys with
 | nil=>intro k hk;simp at hk
 | cons y ys ih=>
   intro k hk r hr;have hl:(jZ y).length=4:=rfl;rw[FH]
   cases k with
   | zero=>
     rw[ae,aD (by omega),<-ae];simp
   | succ k=>
     rw[ae,aC (by omega),hl,show 4*(k+1)+r-4=4*k+r by omega,<-ae,ih k (by simpa using hk) r hr,ag]
theorem Kb {ys:List Nat}{s:Nat}(hs:ic ys s=0){i:Nat}(hi:4*ys.length-s<=i):(fg ys).getD i 0=0:=by
 unfold ic at hs;split at hs
 .rename_i h;rw[List.all_eq_true]at h;rw[ae];rcases aN i (fg ys).length with hl|hl
  .rw[ah hl]
   have:=h ((fg ys)[i]) (by
    rw[List.mem_drop_iff_getElem];exact⟨i-(4*ys.length-s),by omega,by congr 1;omega⟩)
   simpa using this
  .rw[ay hl];rfl
 .cases hs
theorem ow {ys:List Nat}{s:Nat}(hs:ic ys s=0)(h3:s<=3)(hy:∀ y∈ys,y<4294967296):mO ((fg ys).take (4*ys.length-s))=ys:=by
 have agU:∀ i,((fg ys).take (4*ys.length-s)).getD i 0=(fg ys).getD i 0:=fun i=>by
  rcases aN i (4*ys.length-s) with h|h
  .rw[ae,aZ,if_pos h,<-ae]
  .rw[Kb hs h,ae,aZ,if_neg (by omega)];rfl
 have hlen:(((fg ys).take (4*ys.length-s)).length+3)/4=ys.length:=by
  rw[bi,gK];omega
 rw[Rh,hlen];apply List.ext_getElem?;intro k;rcases aN k ys.length with hk|hk
 .rw[List.getElem?_map,List.getElem?_range hk,ah hk];have e:ys.getD k 0=ys[k]:=by rw[ae,ah hk];rfl
  have h32:=hy _ (aB hk);have g0:=nc ys k hk 0 (by omega);have g1:=nc ys k hk 1 (by omega);have g2:=nc ys k hk 2 (by omega);have g3:=nc ys k hk 3 (by omega);rw[e]at g0 g1 g2 g3;generalize ys[k]=y at*;simp only[Option.map_some,iU,agU];rw[show 4*k=4*k+0 by omega,g0,show 4*k+0+1=4*k+1 by omega,show 4*k+0+2=4*k+2 by omega,show 4*k+0+3=4*k+3 by omega,g1,g2,g3];simp only[jZ,az,ag];congr 1;omega
 .rw[ay (by simpa using hk),ay hk]
end
end Go.Proofs.YtlkahgagmfhdaaaGreatDoor
