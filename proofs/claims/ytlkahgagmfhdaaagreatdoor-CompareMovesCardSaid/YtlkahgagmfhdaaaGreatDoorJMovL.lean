import Derived.Test.YtlkahgagmfhdaaaGreatDoorJKRCol
import Derived.Test.YtlkahgagmfhdaaaGreatDoorJAwakeC
set_option linter.unusedVariables false
set_option linter.unusedSimpArgs false
namespace Go.Proofs.YtlkahgagmfhdaaaGreatDoor
section
open Go.RowKit
section
variable {h:HM}{l:List Ob}
theorem zr (G:h.Good l):h.apn h.roots=true:=by
 have:=Je G h.roots.length
 rwa[List.take_length]at this
theorem J_ {fr:List Nat}(h0:h.apv fr=0):∃ L,f_ h.nmN h.ao_ fr=some L:=by
 unfold HM.apv at h0
 cases e:f_ h.nmN h.ao_ fr with
 | none=>rw[e]at h0;simp at h0
 | some L=>exact⟨L,rfl⟩
theorem ut {fr:List Nat}{L:List Nd}(e:f_ h.nmN h.ao_ fr=some L):h.apv fr=0:=by
 unfold HM.apv;rw[e];rfl
theorem ac8 (G:h.Good l)(hb:h.words.length<=196608):∃ L,f_ h.nmN h.ao_ h.roots=some L:=J_ (Hn G hb (zr G))
theorem xK (G:h.Good l)(hw:∀ b∈l,b.x.fmt≠4){L:List Nd}(hL:f_ h.nmN h.ao_ h.roots=some L):
 f_ (jP h l).nmN (jP h l).ao_ (jP h l).roots=some (yE (fC (eV h l)) L)/\
 kF (jP h l) true (jP h l).roots (yE (fC (eV h l)) L)=kF h true h.roots L:=
 Mc G hw true (fun x hx hk=>ql G hx hk) hL
theorem JD (G:h.Good l)(hw:∀ b∈l,b.x.fmt≠4){L:List Nd}(hL:f_ h.nmN h.ao_ h.roots=some L)(WL:xp h L)
 {M:List Nd}(hM:f_ (jP h l).nmN (jP h l).ao_ (jP h l).roots=some M)(WM:xp (jP h l) M):AC h (jP h l) true h.roots (jP h l).roots=true:=by
 obtain⟨h1,h2⟩:=xK G hw hL;have G':=rv G;have hab:(jP h l).roots.length=h.roots.length:=by rw[G'.fit.roots,G.fit.roots]
 rw[hM]at h1;injection h1 with h1;subst h1
 exact DL.2 ⟨zm (zr G) (zr G') hab.symm (ut hL) (ut hM),
  LX hL hM (fun o q e=>EJ o q e) hab ((FJ G G' hL hM WL WM hab (fun x hx=>G.fit.r32 x hx) (fun x hx=>G'.fit.r32 x hx)).1 h2.symm)⟩
theorem JE (G:h.Good l){L:List Nd}(hL:f_ h.nmN h.ao_ h.roots=some L):AC h h true h.roots h.roots=true:=
 J9 (zr G) (ut hL)
end
def SM (h:HM)(ser:Bool)(fr:List Nat)(L:List Nd)(w:World)(e:Ending)(w':World):Prop:=
 ∃ v,e= .returned (.tuple #[v,.int .i64 0])/\xp h L/\w'.ownsRow w.heap.size 5 1 v (kF h ser fr L).length (fP (kF h ser fr L))/\Below w.heap.size w w'
theorem tS {w:World}{p:HP}{h:HM}{ls:List Ob}(H:fO w p h)(G:h.Good ls)(hs:eX w)(ser:Bool)(A:Option Addr)(n c:Nat)(fr:List Nat)(hn:n<=10000000000000)(hr:eQ w w.heap.size 1 A n (eN fr))(h32:∀ x∈fr,x<4294967296)
 (hf:h.apn fr=true){L:List Nd}(hL:f_ h.nmN h.ao_ fr=some L):Calls Tryz.prog 55 #[ptr p.g,.bool ser,.slice A n c] w (SM h ser fr L w):=by
 refine (CF H G G.laid.heads hs ser A n c fr hn hr h32).mono ?_;rintro e w1 ⟨hb,⟨h1,-⟩|⟨-,h1,-⟩|⟨-,l,v,h1,hW,rfl,hown⟩⟩
 .rw[hf]at h1;cases h1
 .rw[hL]at h1;cases h1
 .rw[hL]at h1;injection h1 with h1;subst h1;exact⟨v,rfl,hW,hown,hb⟩
def Pn (h:HM)(w:World)(e:Ending)(w':World):Prop:=
 ∃ g c,e= .returned (.slice (some ⟨g,0,none⟩) 64 c)/\eQ w' w'.heap.size 1 (some ⟨g,0,none⟩) 64 (eN h.roots)/\Below w.heap.size w w'
theorem sI {w:World}{p:HP}{h:HM}(H:fO w p h)(f:h.Fit):Calls Tryz.prog 54 #[ptr p.g] w (Pn h w):=
 (J7 H f 64 (Nat.le_refl _)).mono fun e w' ⟨g,c,he,_,_,hr,hb⟩=>by
  rw[List.take_of_length_le (Nat.le_of_eq f.roots)]at hr;exact⟨g,c,he,hr,hb⟩
end
end Go.Proofs.YtlkahgagmfhdaaaGreatDoor
