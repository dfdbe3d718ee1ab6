import Derived.WalkKit
import Derived.Deep.AppendLies
import Derived.Deep.Draws
import Derived.Lib.Hide
set_option linter.unusedVariables false
set_option linter.unusedSectionVars false
open List renaming getD_eq_getElem?_getD→ae,getElem?_eq_getElem→af,ext_getElem→ag
namespace Go.Proofs.YtlkahgagmfhdaaaGreatDoor
def ac (p:Prop):Prop:=p
theorem aa {p:Prop}(h:p):ac p:=h
theorem ac.o {p:Prop}(h:ac p):p:=h
theorem ac.out {p:Prop}(h:ac p):p:=h
section
open Go.RowKit
theorem gi (a:Addr)(n:Nat):(a.add n).block=a.block:=by unfold Addr.add;split <;> rfl
def eQ (w:World)(B size:Nat)(A:Option Addr)(n:Nat)(xs:List Value):Prop:=
 xs.length=n*size/\(0<n->∃ ad,A=some ad/\ad.block<B/\∀ j u,xs[j]? = some u->w.cell? (ad.add j)=some u)
section
variable {w w':World}{B B' size n:Nat}{A:Option Addr}{xs:List Value}
theorem eQ.none_:eQ w B size A 0 []:=⟨by simp,fun h=>absurd h (by omega)⟩
theorem eQ.at_ {k:Nat}(h:eQ w B 1 A n xs)(hk:k<n):∃ ad u,A=some ad/\ad.block<B/\xs[k]? = some u/\w.cell? (ad.add k)=some u:=by
 obtain⟨ad,e,hb,hc⟩:=h.2 (by omega);have hl:k<xs.length:=by have:=h.1;omega
 exact⟨ad,xs[k],e,hb,af hl,hc k _ (af hl)⟩
theorem eQ.keep (h:eQ w B size A n xs)(hk:∀ p:Addr,p.block<B->w'.cell? p=w.cell? p):eQ w' B size A n xs:=
 ⟨h.1,fun hn=>by
   obtain⟨ad,e,hb,hc⟩:=h.2 hn;exact⟨ad,e,hb,fun j u hu=>(hk _ (by rw[gi];exact hb)).trans (hc j u hu)⟩⟩
theorem eQ.more (h:eQ w B size A n xs)(hB:B<=B'):eQ w B' size A n xs:=
 ⟨h.1,fun hn=>by
   obtain⟨ad,e,hb,hc⟩:=h.2 hn;exact⟨ad,e,by omega,hc⟩⟩
theorem eQ.below (h:eQ w B size A n xs)(hb:Below B w w'):eQ w' B size A n xs:=h.keep fun _ hp=>hb.cell hp
theorem eQ.drew (h:eQ w B size A n xs):eQ w.drew B size A n xs:=h
theorem eQ.alloc (h:eQ w B size A n xs)(hB:B<=w.heap.size)(o:Obj):eQ (w.alloc o) B size A n xs:=h.keep fun p hp=>World.cell?_alloc_lt w o p (by omega)
end
end
section
open Go.RowKit
def iU (bs:List Nat)(j:Nat):Nat:=bs.getD (4*j) 0+bs.getD (4*j+1) 0*256+bs.getD (4*j+2) 0*65536+bs.getD (4*j+3) 0*16777216
def l6 (F:Nat)(bs:List Nat)(k:Nat):List Nat:=(List.range F).map (iU (bs.take k))
def mO (bs:List Nat):List Nat:=l6 ((bs.length+3)/4) bs bs.length
theorem Ni (F:Nat)(bs:List Nat)(k:Nat):(l6 F bs k).length=F:=by simp[l6]
theorem Ds (bs:List Nat):(mO bs).length=(bs.length+3)/4:=by simp[mO,Ni]
theorem xl (bs:List Nat)(k m:Nat):(bs.take k).getD m 0=if m<k then bs.getD m 0 else 0:=by
 rw[ae,List.getElem?_take];split <;> simp[ae]
theorem jt (bs:List Nat)(h:∀ x∈bs,x<256)(m:Nat):bs.getD m 0<256:=by
 rw[ae]
 cases hm:bs[m]? with
 | none=>simp
 | some x=>exact h x (List.mem_of_getElem? hm)
theorem N8 (bs:List Nat)(h:∀ x∈bs,x<256)(j:Nat):iU bs j<4294967296:=by
 unfold iU;have h0:=jt bs h (4*j);have h1:=jt bs h (4*j+1);have h2:=jt bs h (4*j+2);have h3:=jt bs h (4*j+3);omega
theorem JU (F:Nat)(bs:List Nat):l6 F bs 0=List.replicate F 0:=by
 unfold l6;apply ag
 .simp
 .intro i h1 h2;simp[iU]
theorem Nh (F:Nat)(bs:List Nat)(k j:Nat)(hj:j<F):(l6 F bs k)[j]? = some (iU (bs.take k) j):=by
 simp[l6,hj]
theorem H_ (bs:List Nat)(h:∀ x∈bs,x<256)(k:Nat):
 iU (bs.take k) (k/4) ||| (bs.getD k 0*2 ^ (8*(k%4)))=iU (bs.take (k+1)) (k/4)/\
 (∀ j,j≠k/4->iU (bs.take (k+1)) j=iU (bs.take k) j):=by
 refine⟨?_,fun j hj=>?_⟩
 .have hx:=jt bs h k;have h0:=jt bs h (4*(k/4));have h1:=jt bs h (4*(k/4)+1);have h2:=jt bs h (4*(k/4)+2);have hold:iU (bs.take k) (k/4)<2 ^ (8*(k%4)):=by
   unfold iU;simp only[xl];rcases (by omega:k%4=0\/k%4=1\/k%4=2\/k%4=3) with r|r|r|r <;> rw[r]
   .rw[if_neg (by omega),if_neg (by omega),if_neg (by omega),if_neg (by omega)];omega
   .rw[if_pos (by omega),if_neg (by omega),if_neg (by omega),if_neg (by omega)];omega
   .rw[if_pos (by omega),if_pos (by omega),if_neg (by omega),if_neg (by omega)];omega
   .rw[if_pos (by omega),if_pos (by omega),if_pos (by omega),if_neg (by omega)];omega
  rw[Nat.or_comm,nat_join (8*(k%4)) _ _ (by simp) hold];unfold iU;simp only[xl];rcases (by omega:k%4=0\/k%4=1\/k%4=2\/k%4=3) with r|r|r|r <;> rw[r]
  .have e:4*(k/4)=k:=(by omega);rw[e,if_neg (by omega),if_neg (by omega),if_neg (by omega),if_neg (by omega),if_pos (by omega),if_neg (by omega),if_neg (by omega),if_neg (by omega)];omega
  .have e:4*(k/4)+1=k:=(by omega);rw[e,if_pos (by omega),if_neg (by omega),if_neg (by omega),if_neg (by omega),if_pos (by omega),if_pos (by omega),if_neg (by omega),if_neg (by omega)];omega
  .have e:4*(k/4)+2=k:=(by omega);rw[e,if_pos (by omega),if_pos (by omega),if_neg (by omega),if_neg (by omega),if_pos (by omega),if_pos (by omega),if_pos (by omega),if_neg (by omega)];omega
  .have e:4*(k/4)+3=k:=(by omega);rw[e,if_pos (by omega),if_pos (by omega),if_pos (by omega),if_neg (by omega),if_pos (by omega),if_pos (by omega),if_pos (by omega),if_pos (by omega)];omega
 .unfold iU;simp only[xl];have e0:(4*j<k+1)=(4*j<k):=by simp;omega
  have e1:(4*j+1<k+1)=(4*j+1<k):=by simp;omega
  have e2:(4*j+2<k+1)=(4*j+2<k):=by simp;omega
  have e3:(4*j+3<k+1)=(4*j+3<k):=by simp;omega
  simp only[e0,e1,e2,e3]
theorem JT (F:Nat)(bs:List Nat)(h:∀ x∈bs,x<256)(k:Nat)(hk:k/4<F):
 (l6 F bs k).set (k/4) (iU (bs.take k) (k/4) ||| (bs.getD k 0*2 ^ (8*(k%4))))=l6 F bs (k+1):=by
 obtain⟨h1,h2⟩:=H_ bs h k;apply ag
 .simp[l6]
 .intro j Y7 uF;rw[List.getElem_set];split
  .rename_i e;subst e;rw[h1];simp[l6]
  .rename_i e;simp only[l6,List.getElem_map,List.getElem_range];exact (h2 j (fun e'=>e e'.symm)).symm
end
end Go.Proofs.YtlkahgagmfhdaaaGreatDoor
