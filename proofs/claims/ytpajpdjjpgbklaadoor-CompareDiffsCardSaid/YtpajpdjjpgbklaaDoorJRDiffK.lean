/- The document's Diff: what its rounds keep. -/
import Derived.Test.YtpajpdjjpgbklaaDoorJRWalk
import Derived.Test.YtpajpdjjpgbklaaDoorJRFollow
import Derived.Test.YtpajpdjjpgbklaaDoorJDiffW
set_option linter.unusedVariables false
set_option linter.unusedSimpArgs false
namespace Go.Proofs.YtpajpdjjpgbklaaDoor
open Go.RowKit Go.Maps
attribute [local go_sem] Oper.semAt_some

/-- The number of Walk's error. -/
def HM.walkE (h : HM) (fr : List Nat) : Nat := if h.fitsB fr = true then h.seenE fr else 3
theorem walkE_or (h : HM) (fr : List Nat) : h.walkE fr = 0 ∨ h.walkE fr = 2 ∨ h.walkE fr = 3 := by
  unfold HM.walkE
  have := seenE_or h fr
  split <;> omega
theorem diffE_of (g h : HM) (a b : List Nat) : diffE g h a b = if g.walkE a = 3 ∨ h.walkE b = 3 then 3 else if a.length = b.length ∧ g.walkE a = 0 ∧ h.walkE b = 0 then 0 else 2 := by
  unfold diffE HM.walkE
  have h1 := seenE_or g a
  have h2 := seenE_or h b
  by_cases ha : g.fitsB a = true
  · by_cases hb : h.fitsB b = true
    · rw [if_pos ⟨ha, hb⟩, if_pos ha, if_pos hb, if_neg (show ¬ (g.seenE a = 3 ∨ h.seenE b = 3) by omega)]
    · rw [if_neg (fun e => hb e.2), if_neg hb, if_pos (.inr rfl)]
  · rw [if_neg (fun e => ha e.1), if_neg ha, if_pos (.inl rfl)]
def RWalkF (h : HM) (fr : List Nat) (w : World) (e : Ending) (w' : World) : Prop := ∃ v, e = .returned (.tuple #[v, .int .i64 (h.walkE fr : Nat)]) ∧ Below w.heap.size w w'
theorem rwalk_flat {w : World} {p : HP} {h : HM} {ls : List Ob} (H : RAt w p h) (G : h.Good ls) (A : Option Addr) (n c : Nat) (fr : List Nat) (hn : n ≤ 9223372036854775807) (hr : Reads w w.heap.size 1 A n (u32s fr)) (h32 : ∀ x ∈ fr, x < 4294967296) :
    Calls Tryd.prog 37 #[ptr p.g, .slice A n c] w (RWalkF h fr w) := by
  refine (rwalk_any H G A n c fr hn hr h32).mono ?_
  rintro e w1 ⟨hb1, ⟨h1, rfl⟩ | ⟨h1, h2, rfl⟩ | ⟨h1, l, A', c', h2, h3, rfl, -⟩⟩
  · exact ⟨_, by unfold HM.walkE; rw [h1]; rfl, hb1⟩
  · exact ⟨_, by unfold HM.walkE HM.seenE; rw [h1, h2]; rfl, hb1⟩
  · exact ⟨_, by unfold HM.walkE HM.seenE; rw [h1, h2]; rfl, hb1⟩
/-- The two graphs as Diff makes them. -/
def rpairW (w : World) : World :=
  (((w.alloc (.map #[] 0)).alloc (.cells #[.slice none 0 0, .map (some w.heap.size)] 105)).alloc (.map #[] 0)).alloc (.cells #[.slice none 0 0, .map (some (w.heap.size + 1 + 1))] 105)
theorem RP.made {W w : World} (hb : Below W.heap.size W w) : Below w.heap.size w (rpairW w) ∧ RP (rpairW w) W.heap.size (w.heap.size + 1) w.heap.size (w.heap.size + 1 + 1 + 1) (w.heap.size + 1 + 1) (.slice none 0 0) (.slice none 0 0) [] [] := by
  unfold rpairW
  have G1 := RG.made hb
  have s1 : ((w.alloc (.map #[] 0)).alloc (.cells #[.slice none 0 0, .map (some w.heap.size)] 105)).heap.size = w.heap.size + 1 + 1 := by simp
  have b1 := ((Below.refl w.heap.size w).alloc (Nat.le_refl _) (.map #[] 0)).alloc (by simp) (.cells #[.slice none 0 0, .map (some w.heap.size)] 105)
  generalize (w.alloc (.map #[] 0)).alloc (.cells #[.slice none 0 0, .map (some w.heap.size)] 105) = w1 at *
  have G2 := RG.made (hb.trans (b1.mono hb.size))
  have b2 := ((Below.refl w1.heap.size w1).alloc (Nat.le_refl _) (.map #[] 0)).alloc (by simp) (.cells #[.slice none 0 0, .map (some w1.heap.size)] 105)
  rw [s1] at G2 b2
  exact ⟨b1.trans (b2.mono (by omega)), G1.below (by rw [s1]; exact b2), G2, by omega, by omega, fun k hk => by cases hk⟩
/-- Two walks of one Diff: where the difference will lie; what was met. -/
structure RDS (W wr : World) (gX mX gY mY : Nat) (g h : HM) (l m : List Nd) : Prop where
  rp : ∃ vl vm, RP wr W.heap.size gX mX gY mY vl vm l m
  base : Below W.heap.size W wr
  box : Blk wr W.heap.size 35 #[.int .i64 0, .slice none 0 0, .int .i64 0]
  ia : ∀ x ∈ oopsOf l, g.isB x = true
  ib : ∀ x ∈ oopsOf m, h.isB x = true
  side : Side l m
theorem RDS.below {W w w' : World} {gX mX gY mY : Nat} {g h : HM} {l m : List Nd} (S : RDS W w gX mX gY mY g h l m) (hb : Below w.heap.size w w') : RDS W w' gX mX gY mY g h l m := by
  obtain ⟨⟨vl, vm, P⟩, b, x, ia, ib, sd⟩ := S
  exact ⟨⟨vl, vm, P.below hb⟩, below_top b hb, x.below hb x.lt, ia, ib, sd⟩
/-- Blocks of other types are kept. -/
def KeepT (w w' : World) : Prop := w.heap.size ≤ w'.heap.size ∧ ∀ g t cs, Blk w g t cs → t ≠ 105 → 108 ≠ t → Blk w' g t cs
theorem KeepT.own {w w' : World} (k : KeepT w w') {base sz n : Nat} {t : TypeId} {v : Value} {xs : List Value} (h : w.ownsRow base t sz v n xs) (h1 : t ≠ 105) (h2 : 108 ≠ t) : w'.ownsRow base t sz v n xs :=
  own_sameS h (fun q hk => by
    obtain ⟨cs, b⟩ := own_blk h hk
    exact Eq.trans (k.2 _ _ _ b h1 h2) (Eq.symm b))
theorem KeepT.of_below {w w' : World} (hb : Below w.heap.size w w') : KeepT w w' := ⟨hb.size, fun g t cs b _ _ => b.below hb b.lt⟩
/-- What pair does to them. -/
def RDP (W : World) (gX mX gY mY : Nat) (g h : HM) (l m : List Nd) (v u : Nat) (par fld : Int) (w : World) (e : Ending) (w' : World) : Prop :=
  e = .returned (.int .i64 (pairK l m v u : Nat)) ∧ KeepT w w' ∧ ((pairK l m v u ≠ 0 ∧ RDS W w' gX mX gY mY g h l m) ∨ (pairK l m v u = 0 ∧ RDS W w' gX mX gY mY g h (meetN l v par fld 0) (meetN m u par fld 0)))
theorem RDS.pair {W w : World} {gX mX gY mY : Nat} {g h : HM} {l m : List Nd} (S : RDS W w gX mX gY mY g h l m) (fg : g.Fit) (fh : h.Fit) (v u : Nat) (hv : v < 4294967296) (hu : u < 4294967296) (hgv : kindM v = 2 → g.isB v = true) (hhu : kindM u = 2 → h.isB u = true) (par fld : Int) (hp : par < (l.length : Int)) :
    Calls Tryd.prog 38 #[.pointer (some ⟨gX, 0, none⟩), .pointer (some ⟨gY, 0, none⟩), .int .u32 v, .int .u32 u, .int .i64 par, .int .i64 fld] w (RDP W gX mX gY mY g h l m v u par fld w) := by
  obtain ⟨⟨vl, vm, P⟩, b, x, ia, ib, sd⟩ := S
  have hl := graph_bound fg sd.ndl ia
  have hm := graph_bound fh sd.ndm ib
  refine (rpair_any P v u hv hu par fld (by omega) (by omega)).mono ?_
  rintro e w' ⟨rfl, ⟨h1, hb⟩ | ⟨h1, vl', vm', P', s⟩⟩
  · exact ⟨rfl, .of_below hb, .inl ⟨h1, RDS.below ⟨⟨vl, vm, P⟩, b, x, ia, ib, sd⟩ hb⟩⟩
  · exact ⟨rfl, ⟨s.size, fun g t cs bk h1 h2 => s.blk P bk h1 h2⟩, .inr ⟨h1, ⟨⟨vl', vm', P'⟩, b.trans (s.below P), s.blk P x (by decide) (by decide), meetN_all ia hgv _ _ _, meetN_all ib hhu _ _ _, sd.meet h1 par fld 0 hp⟩⟩⟩
/-- The difference as it was stored. -/
theorem diff_stored {g h : HM} {ser : Bool} {a b : List Nat} {W w : World} (hb : Below W.heap.size W w) (d : Df) (hd : diffD g.nmN g.nmAt h.nmAt (g.odM h ser) a b = d) (hE : diffE g h a b = 0) {A : Option Addr} {c : Nat}
    (hr : Reads w w.heap.size 1 A d.path.length (intZ d.path)) (hne : ∀ ad, A = some ad → ad.block ≠ W.heap.size) (hc : d.path.length ≤ c) :
    DiffP g h ser a b W (.returned (.tuple #[.agg #[.int .i64 d.kind, .slice A d.path.length c, .int .i64 d.at_], .int .i64 0])) (((w.setCell ⟨W.heap.size, 0, none⟩ (.int .i64 d.kind)).setCell ⟨W.heap.size, 1, none⟩ (.slice A d.path.length c)).setCell ⟨W.heap.size, 2, none⟩ (.int .i64 d.at_)) := by
  have HV : diffV g h ser a b = d := by unfold diffV; rw [if_pos hE]; exact hd
  have hb7 := ((hb.setCell (p := ⟨W.heap.size, 0, none⟩) (Nat.le_refl _) (.int .i64 d.kind)).setCell (p := ⟨W.heap.size, 1, none⟩) (Nat.le_refl _) (.slice A d.path.length c)).setCell (p := ⟨W.heap.size, 2, none⟩) (Nat.le_refl _) (.int .i64 d.at_)
  refine ⟨hb7, A, c, by rw [HV, hE]; rfl, ?_, by rw [HV]; exact hc⟩
  rw [HV]
  refine ⟨hr.1, fun hn => ?_⟩
  obtain ⟨ad, e, hb, hc⟩ := hr.2 hn
  have h1 := hne ad e
  refine ⟨ad, e, by simp [World.setCell]; exact hb, fun j u hu => ?_⟩
  have hne : (ad.add j).block ≠ W.heap.size := by rw [block_of_add]; exact h1
  rw [World.cell?_setCell_other _ _ _ _ (fun e => hne (by rw [← e])), World.cell?_setCell_other _ _ _ _ (fun e => hne (by rw [← e])), World.cell?_setCell_other _ _ _ _ (fun e => hne (by rw [← e]))]
  exact hc j u hu
/-- A way as path hands it out. -/
theorem path_reads {l : List Nd} {i : Nat} {w w' : World} {e : Ending} (hP : PathP l i w e w') : ∃ A c, e = .returned (.slice A (pathM l i).length c) ∧ Reads w' w'.heap.size 1 A (pathM l i).length (intZ (pathM l i)) ∧ (∀ ad, A = some ad → w.heap.size ≤ ad.block) ∧ (pathM l i).length ≤ c ∧ w'.ownsRow w.heap.size 3 1 (.slice A (pathM l i).length c) (pathM l i).length (intZ (pathM l i)) ∧ Below w.heap.size w w' := by
  obtain ⟨v, rfl, ho, hb⟩ := hP
  rcases ho.2 with ⟨h1, h2⟩ | ⟨g, cap, cur, rfl, h3, h4, h5, h6⟩
  · rw [h1, h2]
    have hx : intZ (pathM l i) = [] := List.eq_nil_of_length_eq_zero (by have := ho.1; omega)
    rw [hx]
    exact ⟨none, 0, rfl, ⟨rfl, (fun h => by omega)⟩, (fun ad e => by cases e), Nat.le_refl _, ⟨rfl, .inl ⟨rfl, rfl⟩⟩, hb⟩
  · obtain ⟨A, c, e1, hr⟩ := own_slice ho
    injection e1 with e1 _ e3
    subst e1
    subst e3
    exact ⟨_, _, rfl, hr, (fun ad e => by injection e with e; subst e; exact h3), h5, ho, hb⟩
theorem RDS.path {W w : World} {gX mX gY mY : Nat} {g h : HM} {l m : List Nd} (S : RDS W w gX mX gY mY g h l m) (fg : g.Fit) {i : Nat} (hi : i < l.length) :
    ∃ A c, w.cell? ⟨gX, 0, none⟩ = some (.slice A l.length c) ∧ Calls Tryd.prog 40 #[.slice A l.length c, .int .i64 (i : Nat)] w fun e w' => ∃ A' c', e = .returned (.slice A' (pathM l i).length c') ∧
      Reads w' w'.heap.size 1 A' (pathM l i).length (intZ (pathM l i)) ∧ (∀ ad, A' = some ad → ad.block ≠ W.heap.size) ∧ (pathM l i).length ≤ c' ∧ w'.ownsRow w.heap.size 3 1 (.slice A' (pathM l i).length c') (pathM l i).length (intZ (pathM l i)) ∧ w.heap.size ≤ w'.heap.size ∧ RDS W w' gX mX gY mY g h l m := by
  have hl := graph_bound fg S.side.ndl S.ia
  have hb := S.box.lt
  obtain ⟨vl, vm, P⟩ := S.rp
  obtain ⟨A, c, rfl, hm⟩ := own_mets P.a.row
  refine ⟨A, c, P.a.box.cell 0, (rpath_any S.side.up (by omega) A c i hi w hm).mono ?_⟩
  intro e w' hP
  obtain ⟨A', c', h1, h2, h3, h4, h5, h6⟩ := path_reads hP
  exact ⟨A', c', h1, h2, (fun ad e => by have := h3 ad e; omega), h4, h5, h6.size, S.below h6⟩
theorem hd_fmt {h : HM} {i : Nat} (hd : h.hdAt i) : 1 ≤ (h.hd i).fmt ∧ (h.hd i).fmt ≤ 4 := by
  have h2 := hd.2
  unfold okhd Hd.may at h2
  simp only [Bool.and_eq_true, decide_eq_true_eq] at h2
  exact ⟨h2.1.1.1.2, h2.1.1.2⟩
/-- The place of the difference, where a way of the call's own grew. -/
theorem own_box {W w w' : World} {gX mX gY mY : Nat} {g h : HM} {l m : List Nd} {base n : Nat} {v : Value} {xs : List Value} {ob : Obj} (S : RDS W w gX mX gY mY g h l m) (ho : w.ownsRow base 3 1 v n xs) (hg : (w.alloc ob).grownBy w' v.ownBlock) : Blk w' W.heap.size 35 #[.int .i64 0, .slice none 0 0, .int .i64 0] :=
  S.box.same ((hg.block _ (by simp; have := S.box.lt; omega) (fun e => own_ne_blk ho S.box (by decide) e.symm)).trans (Below.heap_alloc w _ _ S.box.lt))
theorem own_cap {w : World} {base n c : Nat} {e : TypeId} {A : Option Addr} {xs : List Value} (h : w.ownsRow base e 1 (.slice A n c) n xs) : n ≤ c := by
  rcases h.2 with ⟨h1, h2⟩ | ⟨g, cap, cur, h1, _, _, h5, _⟩
  · omega
  · injection h1 with _ _ h1
    omega
end Go.Proofs.YtpajpdjjpgbklaaDoor
