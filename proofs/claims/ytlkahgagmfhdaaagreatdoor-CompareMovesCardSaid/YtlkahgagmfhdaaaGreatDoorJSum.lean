import Derived.Test.YtlkahgagmfhdaaaGreatDoorRows
import Derived.Test.YtlkahgagmfhdaaaGreatDoorJBase
import Derived.Deep.LoopGhost

open Nat renaming xor_lt_two_pow→ae
set_option maxHeartbeats 400000
namespace Go.Proofs.YtlkahgagmfhdaaaGreatDoor
section
open Go.RowKit
def ry (s:Nat):Nat:=if s%2=1 then (s/2) ^^^ 3988292384 else s/2
def I9:Nat->Nat->Nat
 | 0,s=>s
 | j+1,s=>ry (I9 j s)
def Et (s x:Nat):Nat:=I9 8 (s ^^^ x)
def Vt (s:Nat)(l:List Nat):Nat:=l.foldl Et s
theorem Mh (s:Nat)(h:s<4294967296):ry s<4294967296:=by
 unfold ry;split
 .exact ae (n:=32) (by omega) (by omega)
 .omega
theorem KG (j s:Nat)(h:s<4294967296):I9 j s<4294967296:=by
 induction j with
 | zero=>exact h
 | succ j ih=>exact Mh _ ih
theorem I8 (s x:Nat)(h:s<4294967296)(hx:x<256):Et s x<4294967296:=
 KG _ _ (ae (n:=32) (by omega) (by omega))
theorem PN (s:Nat)(zs:List Nat)(k x:Nat)(h:zs[k]? = some x):Vt s (zs.take (k+1))=Et (Vt s (zs.take k)) x:=by
 unfold Vt;rw[List.take_add_one,h,List.foldl_append];rfl
theorem PM (s:Nat)(zs:List Nat)(h:s<4294967296)(hz:∀ x∈zs,x<256):Vt s zs<4294967296:=by
 induction zs generalizing s with
 | nil=>exact h
 | cons x r ih=>exact ih _ (I8 _ _ h (hz x (by simp))) fun y hy=>hz y (by simp[hy])
theorem RR (v:Nat)(h:v<4294967296):bits .and .u32 (v:Int) 1=((v%2:Nat):Int):=by
 rw[u32_and _ _ (by omega) (by omega) (by omega) (by omega)];simp
theorem RX (v:Nat)(h:v<4294967296):bits .xor .u32 (v:Int) 3988292384=((v ^^^ 3988292384:Nat):Int):=by
 rw[u32_xor _ _ (by omega) (by omega) (by omega) (by omega)];simp
theorem RT (v:Nat)(h:v<4294967296):bits .xor .u32 IntKind.u32.max (v:Int)=4294967295-(v:Int):=by
 have hm:IntKind.u32.max=4294967295:=rfl;rw[hm,u32_xor _ _ (by omega) (by omega) (by omega) (by omega)];have e:((4294967295:Int).toNat ^^^ (v:Int).toNat)=4294967295-v:=by
  have:=congrArg BitVec.toNat (BitVec.xor_allOnes (x:=BitVec.ofNat 32 v));rw[BitVec.toNat_xor,BitVec.toNat_allOnes,BitVec.toNat_not,BitVec.toNat_ofNat,Nat.mod_eq_of_lt (by omega)]at this;rw[Nat.xor_comm];simpa using this
 rw[e];omega
def u8s (zs:List Nat):List Value:=zs.map fun x:Nat=> .int .u8 (x:Int)
theorem Yr {zs:List Nat}{k:Nat}{u:Value}(h:(u8s zs)[k]? = some u):∃ x,zs[k]? = some x/\u= .int .u8 (x:Int):=by
 unfold u8s at h;rw[List.getElem?_map]at h
 cases hz:zs[k]? with
 | none=>rw[hz]at h;cases h
 | some x=>rw[hz]at h;exact⟨x,rfl,by injection h with h;exact h.symm⟩
def Lq (zs:List Nat):Int:=4294967295-(Vt 4294967295 zs:Int)
theorem sP (A:Option Addr)(n c B:Nat)(zs:List Nat)(w:World)(hm:n<=9223372036854775807)(hr:eQ w B 1 A n (u8s zs))(hb:∀ x∈zs,x<256):
 Calls Tryz.prog 113 #[.slice A n c] w fun e w'=>e= .returned (.int .u32 (Lq zs))/\w=w':=by
 have hl:zs.length=n:=by have:=hr.1;simpa[u8s] using this
 have HL:=aa hl;clear hl;have HR:=aa hr;clear hr;have HB:=aa hb;clear hb;go_enter Tryz.func113,Tryz.ntmps113;go_wp2_with fail
 go_loop [3,9] (fun s i=>∃ k:Nat,k<=n/\i= .int .i64 k/\s= .int .u32 (Vt 4294967295 (zs.take k))) (fun _ i=>n-(intOf i).toNat)
 case atStart=>exact⟨0,by omega,rfl,rfl⟩
 case round=>
  obtain⟨k,hk,rfl,rfl⟩:=hrel;have Gj:=PM 4294967295 (zs.take k) (by omega) (fun x hx=>HB.o x (List.mem_of_mem_take hx));by_cases hlt:k<n
  .obtain⟨ad,u0,rfl,_,hx,hcell⟩:=HR.o.at_ hlt;obtain⟨z,hz,rfl⟩:=Yr hx;have Zf:=HB.o z (List.mem_of_getElem? hz);have HS:=aa (PN 4294967295 zs k z hz);clear hx hz;generalize Vt 4294967295 (zs.take k)=u at*;have hx:bits .xor .u32 (u:Int) (z:Int)=((u ^^^ z:Nat):Int):=u32_xor_nat _ _ Gj (by omega);have Yg:u ^^^ z<4294967296:=ae (n:=32) (by omega) (by omega);go_wp2_with fail
   go_loop [3,17] (fun s i=>∃ j:Nat,j<=8/\i= .int .i64 j/\s= .int .u32 (I9 j (u ^^^ z))) (fun _ i=>8-(intOf i).toNat)
   case atStart=>exact⟨0,by omega,rfl,rfl⟩
   case round=>
    obtain⟨j,hj,rfl,rfl⟩:=hrel;have hl:=KG j _ Yg;by_cases hj8:j<8
    .have HB:=aa (show I9 (j+1) (u ^^^ z)=ry (I9 j (u ^^^ z)) from rfl);generalize I9 j (u ^^^ z)=v at*;clear hx Yg Zf Gj;have h1:=RR v hl;by_cases hv:v%2=1
     .have h2:((v%2:Nat):Int)=1:=(by omega);rw[h2]at h1;clear h2;have h3:=RX (v/2) (by omega);rw[show ((v/2:Nat):Int)=(v:Int)/2 from by omega]at h3;have h4:ry v=(v/2) ^^^ 3988292384:=(by simp[ry,hv]);generalize ((v/2) ^^^ 3988292384)=y at*;have H4:=aa h4;clear h4 hv;go_wp2_with fail
      go_round
      case rel=>exact⟨j+1,by omega,by go_num,by rw[HB.o,H4.o]⟩
      case measure=>simp[intOf];omega
     .have h2:((v%2:Nat):Int)=0:=(by omega);rw[h2]at h1;clear h2;have h4:ry v=v/2:=(by simp[ry,hv]);have H4:=aa h4;clear h4 hv;go_wp2_with fail
      go_round
      case rel=>exact⟨j+1,by omega,by go_num,by rw[HB.o,H4.o];go_num⟩
      case measure=>simp[intOf];omega
    .obtain rfl:j=8:=(by omega);go_wp2_with fail
     go_round
     case rel=>exact⟨k+1,by omega,by go_num,by rw[HS.o];rfl⟩
     case measure=>simp[intOf];omega
  .obtain rfl:k=n:=(by omega);have hx:=RT _ Gj;have hsg:IntKind.u32.signed=false:=rfl;have gS:=aa (show zs.take k=zs from List.take_of_length_le (by rw[HL.o];omega));go_wp2_with fail;go_ret;exact⟨by unfold Lq;rw[<-gS.o];simp[List.take_take],rfl⟩
end
end Go.Proofs.YtlkahgagmfhdaaaGreatDoor
