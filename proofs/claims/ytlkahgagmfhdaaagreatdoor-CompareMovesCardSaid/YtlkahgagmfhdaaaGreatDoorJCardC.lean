import Derived.Test.YtlkahgagmfhdaaaGreatDoorJOpen
import Derived.Test.YtlkahgagmfhdaaaGreatDoorJAll
import Derived.Test.YtlkahgagmfhdaaaGreatDoorCards
import Derived.Test.YtlkahgagmfhdaaaGreatDoorTie
import Derived.Deep.Fields
import Derived.Deep.DeepHandedRow
set_option linter.unusedVariables false
open List renaming getElem?_eq_none→ae,getElem?_eq_getElem→ah,ext_getElem?→aj,getElem?_map→ak
open Go.DataW renaming trod→af,trod_int→au,lit→ay
open Option renaming map_eq_some_iff→ag
set_option maxRecDepth 100000
namespace Go.Proofs.YtlkahgagmfhdaaaGreatDoor
section
open Go.RowKit Go.WideShapes Go.ChangeShapes Go.ChangeAt Go.Deep
theorem own:ownKnob Tryz.prog.godebug=none:=by kernel_rfl
theorem Ux:laidOutB Tryz.prog=true:=by kernel_rfl
def Kw (P:Program)(w:World)(n:String)(d:DataW Unit):Prop:=
 ∃ g t cs fuel p,P.globalNamed n=some g/\(P.globals[g]?).map (·.type)=some t/\w.var? P n=some cs/\af (fun _=>()) P w 0 (fun _=>true) false fuel t cs.toList=some (d,p)
theorem tJ {P:Program}{w:World}:∀ {l:List (String × DataW Unit)} {ps:List MemPlace},DataW.LaidVars P w l ps->∀ n d,(n,d)∈l->Kw P w n d
 | [],_,_,_,_,hm=>by cases hm
 | (n',d') :: r,ps,h,n,d,hm=>by
   obtain⟨g,t,cs,fuel,p,q,h1,h2,h3,h4,h5,_⟩:=h;rcases List.mem_cons.1 hm with e|e
   .cases e;exact⟨g,t,cs,fuel,p,h1,h2,h3,h4⟩
   .exact tJ h5 n d e
theorem ET {P:Program}{w:World}{l:List (String × DataW Unit)}(h:laidMet P l w){n:String}{d:DataW Unit}(hm:(n,d)∈l):Kw P w n d:=
 let ⟨_,hv,_⟩:=h
 tJ hv n d hm
theorem El {H:Type}{enc:TypeId × Value->H}{P:Program}{w:World}{base:Nat}{sp:Nat->Bool}{held:Bool}{fuel:Nat}{t e:TypeId}{n:Nat}{cs:List Value}{zs:List Bool}{p:List MemPlace}
 (ht:P.underlying t=some (.array n e))(he:P.underlying e=some .bool)(hce:P.cellsOf e=1)(hct:P.cellsOf t=n)
 (h:af enc P w base sp held fuel t cs=some (.agg (zs.map fun z=> .lit (.bool z)),p)):cs=zs.map Value.bool:=by
 cases fuel with
 | zero=>simp[af]at h
 | succ fuel=>
   simp only[af,ht,hce,hct,Nat.mul_one]at h;split at h
   .rename_i hl;obtain⟨xs,hm,hx⟩:=ag.1 h;have hxs:xs.map (·.1)=zs.map fun z=>(ay (.bool z):DataW H):=by
     have:=congrArg Prod.fst hx;simpa using this
    have Yg:xs.length=n:=(by simpa using Lib.mapM_length hm);have hzl:zs.length=n:=by
     have:=congrArg List.length hxs;simp at this;omega
    apply aj;intro i;by_cases hi:i<n
    .obtain⟨b,hb,hf⟩:=Lib.mapM_at hm i i (by simp[hi]);obtain⟨z,hc,rfl⟩:=DataW.trod_bool he hf;have h1:cs[i]? = some (.bool z):=by
      have:=congrArg (·[0]?) hc;simpa[List.getElem?_take,List.getElem?_drop] using this
     have h2:(xs.map (·.1))[i]? = some (ay (.bool z):DataW H):=(by simp[hb]);rw[hxs]at h2;simp only[ak,ag,DataW.lit.injEq,Lit.bool.injEq]at h2;obtain⟨z',hz',rfl⟩:=h2;simp[h1,hz']
    .rw[ae (by omega),ae (by simp;omega)]
   .cases h
theorem gSp:Tryz.prog.globalNamed "effigy/oop.spares" = some 0:=by kernel_rfl
theorem af9:(Tryz.prog.globals[0]?).map (·.type)=some 362:=by kernel_rfl
theorem cSp:Tryz.prog.cellsOf 362=5:=by kernel_rfl
theorem cB:Tryz.prog.cellsOf 4=1:=by kernel_rfl
theorem Ja {l:List (String × DataW Unit)} {W:World} (h:laidMet Tryz.prog l W) (h2:("effigy/oop.spares",Rows.laid_effigy_oop_spares)∈l):Ig W:=by
 have hs:eX W:=by
  obtain⟨g,t,cs,fuel,p,e1,e2,e3,e4⟩:=ET h h2;obtain rfl:=Option.some.inj (gSp.symm.trans e1);obtain rfl:=Option.some.inj (af9.symm.trans e2);have e5:=El (zs:=[false,false,true,false,false]) Tryz.underlying362 Tryz.underlying4 cB cSp e4;intro i hi;have:=World.var?_cell gSp e3 i;rw[this,<-Array.getElem?_toList,e5];rcases (by omega:i=0\/i=1\/i=2\/i=3\/i=4) with rfl|rfl|rfl|rfl|rfl <;> rfl
 exact⟨hs,hs⟩
theorem qL {H:Type}{enc:TypeId × Value->H}{P:Program}{w:World}{base:Nat}{spare:Nat->Bool}{held:Bool}{fuel:Nat}{t e:TypeId}{k:IntKind}{cs:List Value}{x:DataW H × List MemPlace}
 (ht:P.underlying t=some (.slice e))(he:P.underlying e=some (.int k))(hc:P.cellsOf e=1)(h:af enc P w base spare held fuel t cs=some x):
 ∃ (A:Option Addr) (n c:Nat) (zs:List Int),cs=[.slice A n c]/\n<=c/\c<=maxLen/\eQ w w.heap.size 1 A n (zs.map (Value.int k))/\zs.length=n/\(∀ x∈zs,(Lit.int k x).wf=true):=by
 have h':=h;rcases open_ints ht he hc h with ⟨hcs,hx⟩|⟨a,len',cap',zs,hcs,_⟩
 .subst hcs;obtain⟨A,n,c,zs,hv,r⟩:=qM (v:=.slice none 0 0) (d:=x.1) (ps:=x.2) ht he hc ⟨_,_,_,rfl⟩ ⟨fuel,h'⟩;exact⟨A,n,c,zs,by rw[hv],r⟩
 .subst hcs;obtain⟨A,n,c,zs,hv,r⟩:=qM (v:=.slice (some a) len' cap') (d:=x.1) (ps:=x.2) ht he hc ⟨_,_,_,rfl⟩ ⟨fuel,h'⟩;exact⟨A,n,c,zs,by rw[hv],r⟩
theorem Sb {k:IntKind}{n:Int}(h:(Lit.int k n).wf=true):k.min<=n/\n<=k.max:=by simpa[Lit.wf] using h
theorem M6 {k:IntKind}{n:Int}(hk:k.min=0)(h:(Lit.int k n).wf=true):∃ m:Nat,n=(m:Int)/\(m:Int)<=k.max:=by
 have:=Sb h;exact⟨n.toNat,by omega,by omega⟩
theorem PE:Tryz.prog.cellsOf 32=1:=by kernel_rfl
theorem PD:Tryz.prog.cellsOf 54=1:=by kernel_rfl
theorem aa4:∃ fs,Tryz.prog.underlying 119=some (.struct fs)/\oneCellFields Tryz.prog fs=true/\fs.size=4/\
 fs.toList.map (·.type)=[3,84,101,32]:=⟨_,Tryz.underlying119,by kernel_rfl,by kernel_rfl,by kernel_rfl⟩
theorem Md:Tryz.prog.cellsOf 119=4:=by kernel_rfl
theorem Nc {H:Type}{enc:TypeId × Value->H}{w:World}{r:Reach}{b0 base:Nat}{spare:Nat->Bool}{held:Bool}{v:Value}{d:DataW H}{ps:List MemPlace}
 (hv:Value.okWide Tryz.prog w r b0 119 v)(h:DataW.Trod enc Tryz.prog w base spare held 119 v d ps):∃ k:Cs,v=k.agg/\k.At w w.heap.size:=by
 obtain⟨fs,V1,UL,Hp,Yp⟩:=aa4;obtain⟨cs,rfl,hsz⟩:=okWide_struct V1 hv;obtain⟨fuel,hf0⟩:=h;obtain⟨xs,n',hn',hy,hlen,hyl,hf⟩:=DataW.trod_struct V1 (show af enc Tryz.prog w base spare held fuel 119 cs.toList=some (d,ps) from hf0);rw[Md]at hlen;rw[Hp]at hyl;have field:∀ (j:Nat) (t:TypeId),(fs.toList.map (·.type))[j]? = some t->∃ (v:Value) (y:DataW H × List MemPlace),cs.toList[j]? = some v/\af enc Tryz.prog w base spare held n' t [v]=some y:=by
  intro j t hj;rw[ak,ag]at hj;obtain⟨f,hjf,rfl⟩:=hj;rw[Array.getElem?_toList]at hjf;obtain⟨ho,hk⟩:=hone_of UL j f hjf;have XW:j<4:=by have:=(Array.getElem?_eq_some_iff.1 hjf).1;rw[Hp]at this;exact this
  have h1:=hf j f hjf;rw[ho,hk]at h1;have acw:(cs.toList.drop j).take 1=[cs.toList[j]'(by omega)]:=by
   rw[List.drop_eq_getElem_cons (by omega)];rfl
  rw[acw]at h1;exact⟨cs.toList[j]'(by omega),xs[j]'(by omega),ah (by omega),h1.trans (ah (by omega))⟩
 rw[Yp]at field;obtain⟨v0,y0,c0,t0⟩:=field 0 _ rfl;obtain⟨v1,y1,c1,t1⟩:=field 1 _ rfl;obtain⟨v2,y2,c2,t2⟩:=field 2 _ rfl;obtain⟨v3,y3,c3,t3⟩:=field 3 _ rfl;clear field hf;obtain⟨n0,e0,-,w0⟩:=au Tryz.underlying3 t0;obtain⟨A,m,c,zs,e1,hmc,hcm,hr,hzl,VW⟩:=qL Tryz.underlying84 Tryz.underlying32 PE t1;obtain⟨A',m',c',zs',e2,am3,agL,hr',anP,ahR⟩:=qL Tryz.underlying101 Tryz.underlying54 PD t2;obtain⟨n3,e3,-,w3⟩:=au Tryz.underlying32 t3;obtain⟨ys,rfl,hys⟩:=zQ rfl VW;obtain⟨ys',rfl,ahT⟩:=zQ rfl ahR;obtain⟨m3,rfl,b3⟩:=M6 rfl w3;have hmx:IntKind.u32.max=4294967295:=rfl;simp only[List.cons.injEq,and_true]at e0 e1 e2 e3;subst e0 e1 e2 e3;unfold maxLen at hcm agL;refine⟨⟨n0,A,m,c,A',m',c',ys,ys',m3⟩,?_,⟨by simp only;omega,by simpa[eN,Function.comp_def] using hr,fun x hx=>by have:=hys x hx;omega,by simp only;omega,by simpa[eN,Function.comp_def] using hr',fun x hx=>by have:=ahT x hx;omega,by simp only;omega⟩⟩;unfold Cs.agg;congr 1;apply Array.toList_inj.1;apply aj;intro j;rcases Nat.lt_or_ge j 4 with hj|hj
 .rcases (by omega:j=0\/j=1\/j=2\/j=3) with rfl|rfl|rfl|rfl
  .exact c0
  .exact c1
  .exact c2
  .exact c3
 .rw[ae (by omega),ae (by exact hj)]
def MS (l:List Value):Obj->Obj
 | .cells _ t frozen=> .cells l.toArray t frozen
 | o=>o
noncomputable def wU (os:Os):World:=
 { World.holding Tryz.prog os ⟨#[],#[],[]⟩ with heap:=((World.holding Tryz.prog os ⟨#[],#[],[]⟩).heap.modify 0 (MS [.bool false,.bool false,.bool true,.bool false,.bool false])) }
end
end Go.Proofs.YtlkahgagmfhdaaaGreatDoor
