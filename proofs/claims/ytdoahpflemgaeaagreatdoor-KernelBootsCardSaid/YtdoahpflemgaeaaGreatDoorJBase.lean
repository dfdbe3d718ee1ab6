import Derived.WalkKit
import Derived.Below
import Derived.Laws.OwnMore
import Derived.Deep.AppendLies
import Derived.Deep.Draws
import Derived.Laws.Rows
import Derived.Lib.Hide
set_option linter.unusedVariables false
set_option linter.unusedSectionVars false
namespace Go.Proofs.YtdoahpflemgaeaaGreatDoor
section
open Go.RowKit
theorem block_of_add (a:Addr) (n:Nat):(a.add n).block=a.block:=by unfold Addr.add; split <;> rfl
def Reads (w:World) (B size:Nat) (A:Option Addr) (n:Nat) (xs:List Value):Prop:=
 xs.length=n*size∧(0<n→∃ ad,A=some ad∧ad.block<B∧∀ j u,xs[j]? = some u→w.cell? (ad.add j)=some u)
section
variable {w w':World} {B B' size n:Nat} {A:Option Addr} {xs:List Value}
theorem Reads.at_ {k:Nat} (h:Reads w B 1 A n xs) (hk:k<n):∃ ad u,A=some ad∧ad.block<B∧xs[k]? = some u∧w.cell? (ad.add k)=some u:=by
 obtain⟨ad,e,hb,hc⟩:=h.2 (by omega)
 have hl:k<xs.length:=by have:=h.1; omega
 exact⟨ad,xs[k],e,hb,List.getElem?_eq_getElem hl,hc k _ (List.getElem?_eq_getElem hl)⟩
theorem Reads.keep (h:Reads w B size A n xs) (hk:∀ p:Addr,p.block<B→w'.cell? p=w.cell? p):Reads w' B size A n xs:=
 ⟨h.1,fun hn=>by
   obtain⟨ad,e,hb,hc⟩:=h.2 hn
   exact⟨ad,e,hb,fun j u hu=>(hk _ (by rw [block_of_add]; exact hb)).trans (hc j u hu)⟩⟩
theorem Reads.more (h:Reads w B size A n xs) (hB:B≤B'):Reads w B' size A n xs:=
 ⟨h.1,fun hn=>by
   obtain⟨ad,e,hb,hc⟩:=h.2 hn
   exact⟨ad,e,by omega,hc⟩⟩
theorem Reads.below (h:Reads w B size A n xs) (hb:Below B w w'):Reads w' B size A n xs:=h.keep fun _ hp=>hb.cell hp
theorem Reads.drew (h:Reads w B size A n xs):Reads w.drew B size A n xs:=h
theorem Reads.alloc (h:Reads w B size A n xs) (hB:B≤w.heap.size) (o:Obj):Reads (w.alloc o) B size A n xs:=h.keep fun p hp=>World.cell?_alloc_lt w o p (by omega)
end
end
section
open Go.RowKit
def byteOf (w r:Nat):Nat:=w / 2 ^ (8*r)%256
end
section
open Go.RowKit
def wordAt (bs:List Nat) (j:Nat):Nat:=bs.getD (4*j) 0+bs.getD (4*j+1) 0*256+bs.getD (4*j+2) 0*65536+bs.getD (4*j+3) 0*16777216
def packK (F:Nat) (bs:List Nat) (k:Nat):List Nat:=(List.range F).map (wordAt (bs.take k))
def packM (bs:List Nat):List Nat:=packK ((bs.length+3) / 4) bs bs.length
theorem packK_len (F:Nat) (bs:List Nat) (k:Nat):(packK F bs k).length=F:=by simp [packK]
theorem packM_len (bs:List Nat):(packM bs).length=(bs.length+3) / 4:=by simp [packM,packK_len]
theorem take_getD (bs:List Nat) (k m:Nat):(bs.take k).getD m 0=if m<k then bs.getD m 0 else 0:=by
 rw [List.getD_eq_getElem?_getD,List.getElem?_take]
 split <;> simp [List.getD_eq_getElem?_getD]
theorem getD_lt (bs:List Nat) (h:∀ x∈bs,x<256) (m:Nat):bs.getD m 0<256:=by
 rw [List.getD_eq_getElem?_getD]
 cases hm:bs[m]? with
 | none=>simp
 | some x=>exact h x (List.mem_of_getElem? hm)
theorem wordAt_lt (bs:List Nat) (h:∀ x∈bs,x<256) (j:Nat):wordAt bs j<4294967296:=by
 unfold wordAt
 have h0:=getD_lt bs h (4*j)
 have h1:=getD_lt bs h (4*j+1)
 have h2:=getD_lt bs h (4*j+2)
 have h3:=getD_lt bs h (4*j+3)
 omega
theorem packK_zero (F:Nat) (bs:List Nat):packK F bs 0=List.replicate F 0:=by
 unfold packK
 apply List.ext_getElem
 ·simp
 ·intro i h1 h2
  simp [wordAt]
theorem packK_get (F:Nat) (bs:List Nat) (k j:Nat) (hj:j<F):(packK F bs k)[j]? = some (wordAt (bs.take k) j):=by
 simp [packK,hj]
theorem wordAt_step (bs:List Nat) (h:∀ x∈bs,x<256) (k:Nat):
 wordAt (bs.take k) (k / 4) ||| (bs.getD k 0*2 ^ (8*(k%4)))=wordAt (bs.take (k+1)) (k / 4)∧
 (∀ j,j≠k / 4→wordAt (bs.take (k+1)) j=wordAt (bs.take k) j):=by
 refine⟨?_,fun j hj=>?_⟩
 ·have hx:=getD_lt bs h k
  have h0:=getD_lt bs h (4*(k / 4))
  have h1:=getD_lt bs h (4*(k / 4)+1)
  have h2:=getD_lt bs h (4*(k / 4)+2)
  have hold:wordAt (bs.take k) (k / 4)<2 ^ (8*(k%4)):=by
   unfold wordAt
   simp only [take_getD]
   rcases (by omega:k%4=0∨k%4=1∨k%4=2∨k%4=3) with r | r | r | r <;> rw [r]
   ·rw [if_neg (by omega),if_neg (by omega),if_neg (by omega),if_neg (by omega)]; omega
   ·rw [if_pos (by omega),if_neg (by omega),if_neg (by omega),if_neg (by omega)]; omega
   ·rw [if_pos (by omega),if_pos (by omega),if_neg (by omega),if_neg (by omega)]; omega
   ·rw [if_pos (by omega),if_pos (by omega),if_pos (by omega),if_neg (by omega)]; omega
  rw [Nat.or_comm,nat_join (8*(k%4)) _ _ (by simp) hold]
  unfold wordAt
  simp only [take_getD]
  rcases (by omega:k%4=0∨k%4=1∨k%4=2∨k%4=3) with r | r | r | r <;> rw [r]
  ·have e:4*(k / 4)=k:=by omega
   rw [e,if_neg (by omega),if_neg (by omega),if_neg (by omega),if_neg (by omega),if_pos (by omega),if_neg (by omega),if_neg (by omega),if_neg (by omega)]; omega
  ·have e:4*(k / 4)+1=k:=by omega
   rw [e,if_pos (by omega),if_neg (by omega),if_neg (by omega),if_neg (by omega),if_pos (by omega),if_pos (by omega),if_neg (by omega),if_neg (by omega)]; omega
  ·have e:4*(k / 4)+2=k:=by omega
   rw [e,if_pos (by omega),if_pos (by omega),if_neg (by omega),if_neg (by omega),if_pos (by omega),if_pos (by omega),if_pos (by omega),if_neg (by omega)]; omega
  ·have e:4*(k / 4)+3=k:=by omega
   rw [e,if_pos (by omega),if_pos (by omega),if_pos (by omega),if_neg (by omega),if_pos (by omega),if_pos (by omega),if_pos (by omega),if_pos (by omega)]; omega
 ·unfold wordAt
  simp only [take_getD]
  have e0:(4*j<k+1)=(4*j<k):=by simp; omega
  have e1:(4*j+1<k+1)=(4*j+1<k):=by simp; omega
  have e2:(4*j+2<k+1)=(4*j+2<k):=by simp; omega
  have e3:(4*j+3<k+1)=(4*j+3<k):=by simp; omega
  simp only [e0,e1,e2,e3]
theorem packK_step (F:Nat) (bs:List Nat) (h:∀ x∈bs,x<256) (k:Nat) (hk:k / 4<F):
 (packK F bs k).set (k / 4) (wordAt (bs.take k) (k / 4) ||| (bs.getD k 0*2 ^ (8*(k%4))))=packK F bs (k+1):=by
 obtain⟨h1,h2⟩:=wordAt_step bs h k
 apply List.ext_getElem
 ·simp [packK]
 ·intro j hj1 hj2
  rw [List.getElem_set]
  split
  ·rename_i e
   subst e
   rw [h1]
   simp [packK]
  ·rename_i e
   simp only [packK,List.getElem_map,List.getElem_range]
   exact (h2 j (fun e'=>e e'.symm)).symm
end
end Go.Proofs.YtdoahpflemgaeaaGreatDoor
