/- (*graph).meet: gives an object the next number. -/
/- Digest of both sides; the document's Signed and Count. -/
/- counts, reference; the document's Count of one number. -/
import Derived.Test.YtpajpdjjpgbklaaDoorJRefE
import Derived.Test.YtpajpdjjpgbklaaDoorJMapOk
import Derived.Test.YtpajpdjjpgbklaaDoorJMem
import Derived.Test.YtpajpdjjpgbklaaDoorJText
import Derived.Laws.BitsAllLaws
import Derived.Laws.Bits128
set_option linter.unusedVariables false
set_option linter.unusedSectionVars false
namespace Go.Proofs.YtpajpdjjpgbklaaDoor
open Go.RowKit Go.Maps
attribute [local go_sem] Oper.semAt_some

theorem info_int : (Tryd.prog.info? 3).map (fun i => (i.zero, i.size, i.bytes)) = some (some (.int .i64 0), 1, 8) := by kernel_rfl
theorem own_same {w w' : World} {base : Nat} {e : TypeId} {v : Value} {n : Nat} {xs : List Value} (h : w.ownsRow base e 1 v n xs) (hs : ∀ k, v.ownBlock = some k → w'.heap[k]? = w.heap[k]?) : w'.ownsRow base e 1 v n xs := by
  refine ⟨h.1, ?_⟩
  rcases h.2 with h1 | ⟨g, cap, cur, h1, h2, h3, h4⟩
  · exact .inl h1
  · exact .inr ⟨g, cap, cur, h1, h2, (hs g (by rw [h1]; rfl)).trans h3, h4⟩
theorem own_type {w : World} {base base' : Nat} {e e' : TypeId} {v v' : Value} {n n' : Nat} {xs xs' : List Value} (h : w.ownsRow base e 1 v n xs) (h' : w.ownsRow base' e' 1 v' n' xs') (hne : e ≠ e') : ∀ k, v.ownBlock = some k → v'.ownBlock ≠ some k := by
  intro k hk hk'
  rcases h.2 with h1 | ⟨g, cap, cur, rfl, h2, h3, h4⟩
  · obtain ⟨ha, hb⟩ := h1
    first
      | (rw [ha] at hk; simp [Value.ownBlock] at hk)
      | (rw [hb] at hk; simp [Value.ownBlock] at hk)
  · rcases h'.2 with h1 | ⟨g', cap', cur', rfl, h2', h3', h4'⟩
    · obtain ⟨ha, hb⟩ := h1
      first
        | (rw [ha] at hk'; simp [Value.ownBlock] at hk')
        | (rw [hb] at hk'; simp [Value.ownBlock] at hk')
    · simp [Value.ownBlock] at hk hk'
      subst hk
      subst hk'
      rw [h3] at h3'
      injection h3' with h3'
      injection h3' with _ h5
      exact hne h5
def deepsOf (l : List Nd) : List Nat := l.map (·.deep)
theorem one_ints (l : List Nat) : ∀ u ∈ ints l, u.oneCell' = true := by
  intro u hu; obtain ⟨x, _, rfl⟩ := List.mem_map.1 hu; rfl
/-- An own row's block is none that holds cells of another type. -/
theorem own_ne_blk {w : World} {base : Nat} {e t : TypeId} {v : Value} {n g : Nat} {xs : List Value} {cs : Array Value} (h : w.ownsRow base e 1 v n xs) (b : Blk w g t cs) (hne : e ≠ t) : v.ownBlock ≠ some g := by
  intro hk
  rcases h.2 with h1 | ⟨g', cap, cur, rfl, h2, h3, h4⟩
  · obtain ⟨ha, hb⟩ := h1
    first
      | (rw [ha] at hk; simp [Value.ownBlock] at hk)
      | (rw [hb] at hk; simp [Value.ownBlock] at hk)
  · simp [Value.ownBlock] at hk
    subst hk
    unfold Blk at b
    rw [h3] at b
    injection b with b
    injection b with _ h5
    exact hne h5
theorem own_ne_map {w : World} {base b n' : Nat} {e K : TypeId} {v : Value} {n : Nat} {xs : List Value} {f : Nat → Nat} {hs : Nat → Bool} (h : w.ownsRow base e 1 v n xs) (m : MapOk K w b n' f hs) : v.ownBlock ≠ some b := by
  intro hk
  obtain ⟨D, _, ⟨es, clock, hb, r⟩, _⟩ := m
  rcases h.2 with h1 | ⟨g', cap, cur, rfl, h2, h3, h4⟩
  · obtain ⟨ha, hb⟩ := h1
    first
      | (rw [ha] at hk; simp [Value.ownBlock] at hk)
      | (rw [hb] at hk; simp [Value.ownBlock] at hk)
  · simp [Value.ownBlock] at hk
    subst hk
    rw [h3] at hb
    injection hb with hb
    cases hb
/-- A graph of the program's in memory; B: from where on its blocks lie. -/
structure GAt (w : World) (B gG mB : Nat) (hv vm vd : Value) (l : List Nd) : Prop where
  box : Blk w gG 94 #[hv, vm, .map (some mB), vd]
  met : w.ownsRow B 50 1 vm l.length (u32s (oopsOf l))
  deep : w.ownsRow B 3 1 vd l.length (ints (deepsOf l))
  num : MapOk 50 w mB l.length (numF l) (fun x => decide (x ∈ oopsOf l))
  hg : B ≤ gG
  hm : B ≤ mB
  hB : B ≤ w.heap.size
theorem GAt.mB_ne {w : World} {B gG mB : Nat} {hv vm vd : Value} {l : List Nd} (G : GAt w B gG mB hv vm vd l) : gG ≠ mB := by
  rintro rfl
  obtain ⟨D, _, ⟨es, clock, hb, r⟩, _⟩ := G.num
  have := G.box
  unfold Blk at this
  rw [this] at hb
  injection hb with hb
  cases hb
/-- What a deed with a graph does to memory. -/
structure GStep (w w' : World) (gG mB : Nat) (vm vd vm' vd' : Value) : Prop where
  os : w'.os = w.os
  tape : w'.tape = w.tape
  output : w'.output = w.output
  size : w.heap.size ≤ w'.heap.size
  block : ∀ k, k < w.heap.size → k ≠ gG → k ≠ mB → vm.ownBlock ≠ some k → vd.ownBlock ≠ some k → w'.heap[k]? = w.heap[k]?
  rm : ∀ k, vm'.ownBlock = some k → vm.ownBlock = some k ∨ w.heap.size ≤ k
  rd : ∀ k, vd'.ownBlock = some k → vd.ownBlock = some k ∨ w.heap.size ≤ k
theorem GStep.of_below {w w' : World} {gG mB : Nat} {vm vd : Value} (hb : Below w.heap.size w w') : GStep w w' gG mB vm vd vm vd :=
  ⟨hb.os, hb.tape, hb.output, hb.size, fun k hk _ _ _ _ => hb.block k hk, fun _ h => .inl h, fun _ h => .inl h⟩
theorem GAt.below {w w' : World} {B gG mB : Nat} {hv vm vd : Value} {l : List Nd} (G : GAt w B gG mB hv vm vd l) (hb : Below w.heap.size w w') : GAt w' B gG mB hv vm vd l :=
  ⟨G.box.below hb G.box.lt, own_same G.met (fun k hk => hb.block k (G.met.lt k hk).2), own_same G.deep (fun k hk => hb.block k (G.deep.lt k hk).2), G.num.below hb, G.hg, G.hm, Nat.le_trans G.hB hb.size⟩
theorem oopTy : MapTy 92 50 := ⟨Tryd.underlying92, Tryd.underlying50⟩
/-- What meet answers and leaves. -/
def MeetP (B gG mB : Nat) (hv vm vd : Value) (l' : List Nd) (o : Nat) (w : World) (e : Ending) (w' : World) : Prop :=
  e = .returned (.int .i64 (numF l' o : Nat)) ∧ ∃ vm' vd', GAt w' B gG mB hv vm' vd' l' ∧ GStep w w' gG mB vm vd vm' vd'

set_option maxRecDepth 100000 in
set_option maxHeartbeats 4000000 in
theorem meet_any {w : World} {B gG mB : Nat} {hv vm vd : Value} {l : List Nd} (G : GAt w B gG mB hv vm vd l) (hk2 : ∀ x ∈ oopsOf l, kindM x = 2) (o : Nat) (ho : o < 4294967296) (deep : Nat) (hd : deep ≤ 9223372036854775807) (hl : l.length ≤ 4000000) (par fld : Int) :
    Calls Tryd.prog 72 #[.pointer (some ⟨gG, 0, none⟩), .int .u32 o, .int .i64 deep] w (MeetP B gG mB hv vm vd (meetN l o par fld deep) o w) := by
  have HK := Lib.hid (ckind_any o ho w)
  by_cases hk : kindM o = 2
  case neg =>
    have e2 : ((kindM o : Int) != 2) = true := by simp; omega
    have HF := Lib.hid (show meetN l o par fld deep = l ∧ numF l o = 0 from ⟨meetN_old (fun e => hk e.1), by
      have h1 : o ∉ oopsOf l := fun e => hk (hk2 o e)
      unfold numF; rw [if_neg h1]⟩)
    have HG := Lib.hid G
    clear hk G hk2
    generalize kindM o = k at *
    go_enter Tryd.func72, Tryd.ntmps72
    go_wp2_with fail
    refine HK.out.mono ?_
    rintro e w' ⟨rfl, rfl⟩
    go_wp2_with fail
    go_ret
    exact ⟨by rw [HF.out.1, HF.out.2]; rfl, vm, vd, by rw [HF.out.1]; exact HG.out, .of_below (Below.refl _ _)⟩
  case pos =>
  rw [hk] at HK
  have c1 := G.box.cell 1
  have c2 := G.box.cell 2
  have hlk := G.num.look_ok oopTy ho
  by_cases hm : o ∈ oopsOf l
  · have HF := Lib.hid (show meetN l o par fld deep = l from meetN_old (fun e => e.2 hm))
    rw [decide_eq_true hm] at hlk
    have HG := Lib.hid G
    clear hk G hk2 hm
    generalize hn : numF l o = k at *
    have HN := Lib.hid hn
    clear hn
    go_enter Tryd.func72, Tryd.ntmps72
    go_wp2_with fail
    refine HK.out.mono ?_
    rintro e w' ⟨rfl, rfl⟩
    go_wp2_with fail
    go_ret
    exact ⟨by rw [HF.out, HN.out]; rfl, vm, vd, by rw [HF.out]; exact HG.out, .of_below (Below.refl _ _)⟩
  · have HF := Lib.hid (meetN_new (l := l) (p := par) (f := fld) (d := deep) hk hm)
    rw [decide_eq_false hm] at hlk
    have HNF := Lib.hid (numF_new hm par fld deep)
    have HM := Lib.hid hm
    have z1 := G.box.frozen 1
    obtain ⟨i0, hi0, hz0, hz1, hz2⟩ := info_parts info_oop
    obtain ⟨i1, hj0, hj1, hj3, hj2⟩ := info_parts info_int
    have hBs := G.hB
    have hgl := G.box.lt
    have HG := Lib.hid G
    have HAM := Lib.hid (own_type G.met (show w.ownsRow B 3 1 vd l.length (ints (deepsOf l)) from G.deep) (by decide))
    clear hk G hk2 hm
    go_enter Tryd.func72, Tryd.ntmps72
    go_wp2_with fail
    refine HK.out.mono ?_
    rintro e w' ⟨rfl, rfl⟩
    have HVG := Lib.hid (own_ne_blk HG.out.met HG.out.box (by decide))
    have HDG := Lib.hid (own_ne_blk HG.out.deep HG.out.box (by decide))
    have HVM := Lib.hid (own_ne_map HG.out.met HG.out.num)
    have HDM := Lib.hid (own_ne_map HG.out.deep HG.out.num)
    have HGM := Lib.hid HG.out.mB_ne
    have hgl1 : ∀ o : Obj, gG < (w.alloc o).heap.size := fun o => by simp; omega
    go_upto_region 7 with (at_builtin; refine wpList_append_any _ rfl (.tmp 27) (.tmp 29) _ rfl B 50 i0 _ 1 4 Tryd.underlying23 hi0 hz0 hz1 hz2 rfl (by omega) vm l.length _ rfl (HG.out.met.alloc _) (w.heap.size + 1) (some ⟨w.heap.size, 0, none⟩) 1 1 (u32s [o]) rfl ⟨rfl, fun _ => ⟨_, rfl, by simp, cell_one_new _ _ _⟩⟩ (one_u32s _) (by simp only [maxLen]; omega) (by omega) (by simp; omega) ?_; intro v1 w5 hown5 hgrow hat5; obtain ⟨g5, c5, rfl, -, -, hge5⟩ := Row.of_any hown5 (by omega); have k5 := (hgrow.cell_far ⟨gG, 1, none⟩ (hgl1 _) (by first | exact HVG.out | exact fun e => HVG.out e.symm)).trans ((World.cell?_alloc_lt w _ ⟨gG, 1, none⟩ hgl).trans c1); have z5 := (hgrow.frozen_far ⟨gG, 1, none⟩ (hgl1 _) (by first | exact HVG.out | exact fun e => HVG.out e.symm)).trans ((World.frozen?_alloc_old _ _ _ (by simp; omega)).trans z1))
    have HS6 := Lib.hid (show ∀ k, k < w.heap.size → k ≠ gG → vm.ownBlock ≠ some k → (w5.setCell ⟨gG, 1, none⟩ (.slice (some ⟨g5, 0, none⟩) (l.length + 1) c5)).heap[k]? = w.heap[k]? from fun k h1 h2 h3 =>
      (Below.heap_setCell w5 ⟨gG, 1, none⟩ _ k h2).trans ((hgrow.block k (by simp; omega) (fun e => h3 e.symm)).trans (Below.heap_alloc w _ k h1)))
    have HO6 := Lib.hid (hown5)
    have hs5 : w.heap.size < w5.heap.size := by have := hgrow.size; simp at this; omega
    have HE5 := Lib.hid (show w5.os = w.os ∧ w5.tape = w.tape ∧ w5.output = w.output from ⟨hgrow.os, hgrow.tape, hgrow.output⟩)
    have HA5 := Lib.hid (show vm.ownBlock = some g5 ∨ w.heap.size ≤ g5 by
      rcases hat5 with e | e
      · left; rw [← e]; rfl
      · right; simp [Value.ownBlock] at e; omega)
    have HB6 := Lib.hid (show Blk (w5.setCell ⟨gG, 1, none⟩ (.slice (some ⟨g5, 0, none⟩) (l.length + 1) c5)) gG 94 #[hv, .slice (some ⟨g5, 0, none⟩) (l.length + 1) c5, .map (some mB), vd] from (HG.out.box.same ((hgrow.block gG (hgl1 _) (fun e => HVG.out e.symm)).trans (Below.heap_alloc w _ gG hgl))).set_ 1 _)
    have HN5 := Lib.hid (show g5 ≠ gG from by
      rcases HA5.out with e | e
      · intro e2; subst e2; exact HVG.out e
      · omega)
    clear hgrow hat5 k5 z5 c1 c2 z1 hlk hi0 hz0 hz1 hz2
    have HO6' := Lib.hid (own_same HO6.out (w' := w5.setCell ⟨gG, 1, none⟩ (.slice (some ⟨g5, 0, none⟩) (l.length + 1) c5)) (fun k hk => Below.heap_setCell w5 ⟨gG, 1, none⟩ _ k (by simp [Value.ownBlock] at hk; subst hk; exact HN5.out)))
    have hs6 : w.heap.size < (w5.setCell ⟨gG, 1, none⟩ (.slice (some ⟨g5, 0, none⟩) (l.length + 1) c5)).heap.size := by simp [World.setCell]; exact hs5
    have HE6 := Lib.hid (show (w5.setCell ⟨gG, 1, none⟩ (.slice (some ⟨g5, 0, none⟩) (l.length + 1) c5)).os = w.os ∧ (w5.setCell ⟨gG, 1, none⟩ (.slice (some ⟨g5, 0, none⟩) (l.length + 1) c5)).tape = w.tape ∧ (w5.setCell ⟨gG, 1, none⟩ (.slice (some ⟨g5, 0, none⟩) (l.length + 1) c5)).output = w.output from HE5.out)
    generalize w5.setCell ⟨gG, 1, none⟩ (.slice (some ⟨g5, 0, none⟩) (l.length + 1) c5) = W6 at *
    clear HO6 HE5 hs5 hown5
    have HD6 := Lib.hid (own_same HG.out.deep (w' := W6) (fun k hk => HS6.out k (HG.out.deep.lt k hk).2 (fun e => HDG.out (by rw [← e]; exact hk)) (fun e => HAM.out k e hk)))
    have HM6 := Lib.hid (HG.out.num.same (w' := W6) (HS6.out mB HG.out.num.lt (fun e => HGM.out e.symm) HVM.out))
    have c3 := HB6.out.cell 3
    have z3 := HB6.out.frozen 3
    have hg6 : gG < W6.heap.size := HB6.out.lt
    have hg61 : ∀ o : Obj, gG < (W6.alloc o).heap.size := fun o => by simp; omega
    have hB6 : B ≤ W6.heap.size := by omega
    go_upto_region 8 with (at_builtin; refine wpList_append_any _ rfl (.tmp 37) (.tmp 39) _ rfl B 3 i1 _ 1 8 Tryd.underlying33 hj0 hj1 hj3 hj2 rfl (by omega) vd l.length _ rfl (HD6.out.alloc _) (W6.heap.size + 1) (some ⟨W6.heap.size, 0, none⟩) 1 1 (ints [deep]) rfl ⟨rfl, fun _ => ⟨_, rfl, by simp, cell_one_new _ _ _⟩⟩ (one_ints _) (by simp only [maxLen]; omega) (by omega) (by simp; omega) ?_; intro v2 w7 hown7 hgrow hat7; obtain ⟨g7, c7, rfl, -, -, hge7⟩ := Row.of_any hown7 (by omega); have k7 := (hgrow.cell_far ⟨gG, 3, none⟩ (hg61 _) (by first | exact HDG.out | exact fun e => HDG.out e.symm)).trans ((World.cell?_alloc_lt W6 _ ⟨gG, 3, none⟩ hg6).trans c3); have z7 := (hgrow.frozen_far ⟨gG, 3, none⟩ (hg61 _) (by first | exact HDG.out | exact fun e => HDG.out e.symm)).trans ((World.frozen?_alloc_old _ _ _ (by simp; omega)).trans z3))
    have HS8 := Lib.hid (show ∀ k, k < w.heap.size → k ≠ gG → vm.ownBlock ≠ some k → vd.ownBlock ≠ some k → (w7.setCell ⟨gG, 3, none⟩ (.slice (some ⟨g7, 0, none⟩) (l.length + 1) c7)).heap[k]? = w.heap[k]? from fun k h1 h2 h3 h4 =>
      (Below.heap_setCell w7 ⟨gG, 3, none⟩ _ k h2).trans ((hgrow.block k (by simp; omega) (fun e => h4 e.symm)).trans ((Below.heap_alloc W6 _ k (by omega)).trans (HS6.out k h1 h2 h3))))
    have hs7 : w.heap.size < w7.heap.size := by have := hgrow.size; simp at this; omega
    have HA7 := Lib.hid (show vd.ownBlock = some g7 ∨ w.heap.size ≤ g7 by
      rcases hat7 with e | e
      · left; rw [← e]; rfl
      · right; simp [Value.ownBlock] at e; omega)
    have HN7 := Lib.hid (show g7 ≠ gG from by
      rcases HA7.out with e | e
      · intro e2; subst e2; exact HDG.out e
      · omega)
    have HB8 := Lib.hid (show Blk (w7.setCell ⟨gG, 3, none⟩ (.slice (some ⟨g7, 0, none⟩) (l.length + 1) c7)) gG 94 #[hv, .slice (some ⟨g5, 0, none⟩) (l.length + 1) c5, .map (some mB), .slice (some ⟨g7, 0, none⟩) (l.length + 1) c7] from (HB6.out.same ((hgrow.block gG (hg61 _) (fun e => HDG.out e.symm)).trans (Below.heap_alloc W6 _ gG hg6))).set_ 3 _)
    have HX57 := own_type HO6'.out HD6.out (by decide)
    have hg56 : g5 < W6.heap.size := (HO6'.out.lt g5 rfl).2
    have HO8 := Lib.hid (own_same HO6'.out (w' := w7.setCell ⟨gG, 3, none⟩ (.slice (some ⟨g7, 0, none⟩) (l.length + 1) c7)) (fun k hk => by
      simp [Value.ownBlock] at hk
      subst hk
      exact (Below.heap_setCell w7 ⟨gG, 3, none⟩ _ g5 HN5.out).trans ((hgrow.block g5 (by simp; omega) (fun e => HX57 g5 rfl e.symm)).trans (Below.heap_alloc W6 _ g5 hg56))))
    have HD8 := Lib.hid (own_same hown7 (w' := w7.setCell ⟨gG, 3, none⟩ (.slice (some ⟨g7, 0, none⟩) (l.length + 1) c7)) (fun k hk => Below.heap_setCell w7 ⟨gG, 3, none⟩ _ k (by simp [Value.ownBlock] at hk; subst hk; exact HN7.out)))
    have hm6 : mB < W6.heap.size := HM6.out.lt
    have HM8 := Lib.hid (HM6.out.same (w' := w7.setCell ⟨gG, 3, none⟩ (.slice (some ⟨g7, 0, none⟩) (l.length + 1) c7)) ((Below.heap_setCell w7 ⟨gG, 3, none⟩ _ mB (fun e => HGM.out e.symm)).trans ((hgrow.block mB (by simp; omega) (fun e => HDM.out e.symm)).trans (Below.heap_alloc W6 _ mB hm6))))
    have hs8 : w.heap.size < (w7.setCell ⟨gG, 3, none⟩ (.slice (some ⟨g7, 0, none⟩) (l.length + 1) c7)).heap.size := by simp [World.setCell]; exact hs7
    have HE8 := Lib.hid (show (w7.setCell ⟨gG, 3, none⟩ (.slice (some ⟨g7, 0, none⟩) (l.length + 1) c7)).os = w.os ∧ (w7.setCell ⟨gG, 3, none⟩ (.slice (some ⟨g7, 0, none⟩) (l.length + 1) c7)).tape = w.tape ∧ (w7.setCell ⟨gG, 3, none⟩ (.slice (some ⟨g7, 0, none⟩) (l.length + 1) c7)).output = w.output from
      ⟨hgrow.os.trans HE6.out.1, hgrow.tape.trans HE6.out.2.1, hgrow.output.trans HE6.out.2.2⟩)
    generalize w7.setCell ⟨gG, 3, none⟩ (.slice (some ⟨g7, 0, none⟩) (l.length + 1) c7) = W8 at *
    clear hgrow hat7 k7 z7 c3 z3 hown7 hj0 hj1 hj3 hj2 HS6 HB6 HO6' HD6 HM6 HE6 HX57 hg6 hg61 hs7 hm6
    obtain ⟨W9, hpt, HM9, hg9⟩ := (show MapOk 50 W8.drew mB l.length (numF l) (fun x => decide (x ∈ oopsOf l)) from HM8.out).put oopTy (x := o) (v := l.length + 1) ho (by omega) (by omega)
    have HB9 := Lib.hid (show Blk W9 gG 94 #[hv, .slice (some ⟨g5, 0, none⟩) (l.length + 1) c5, .map (some mB), .slice (some ⟨g7, 0, none⟩) (l.length + 1) c7] from HB8.out.drew.same (hg9.block gG HB8.out.lt (fun e => HGM.out (by injection e))))
    have c1 := HB8.out.cell 1
    have c2 := HB8.out.cell 2
    have c9 := HB9.out.cell 1
    have hpt2 : (Instr.mapUpdate 92 (.map (some mB)) (.int .u32 (o : Int)) (.int .i64 ((l.length : Int) + 1))).run Tryd.prog W8.drew = .ok () W9 := by
      have := hpt
      rw [show (((l.length + 1 : Nat)) : Int) = (l.length : Int) + 1 by omega] at this
      exact this
    have HO9 := Lib.hid (own_same HO8.out (w' := W9) (fun k hk => hg9.block k (HO8.out.lt k hk).2 (fun e => own_ne_map HO8.out HM8.out (by injection e with e; rw [← e]; exact hk))))
    have HD9 := Lib.hid (own_same HD8.out (w' := W9) (fun k hk => hg9.block k (HD8.out.lt k hk).2 (fun e => own_ne_map HD8.out HM8.out (by injection e with e; rw [← e]; exact hk))))
    have hs9 : w.heap.size ≤ W9.heap.size := by have h1 := hg9.size; have h2 : W8.drew.heap.size = W8.heap.size := rfl; omega
    have HFIN := Lib.hid (show MeetP B gG mB hv vm vd (meetN l o par fld deep) o w (.returned (.int .i64 ((l.length : Int) + 1))) W9 from by
      rw [HF.out]
      refine ⟨by rw [HNF.out]; unfold upd; rw [if_pos rfl]; rw [show (((l.length + 1 : Nat)) : Int) = (l.length : Int) + 1 by omega], _, _, ⟨HB9.out, ?_, ?_, ?_, HG.out.hg, HG.out.hm, by omega⟩,
        ⟨hg9.os.trans HE8.out.1, hg9.tape.trans HE8.out.2.1, hg9.output.trans HE8.out.2.2, hs9, fun k h1 h2 h3 h4 h5 => (hg9.block k (show k < W8.heap.size by omega) (fun e => h3 (by injection e))).trans (HS8.out k h1 h2 h4 h5), ?_, ?_⟩⟩
      · have := HO9.out
        rw [show u32s (oopsOf (l ++ [⟨o, par, fld, deep⟩])) = u32s (oopsOf l) ++ u32s [o] by simp [oopsOf, u32s], List.length_append]
        exact this
      · have := HD9.out
        rw [show ints (deepsOf (l ++ [⟨o, par, fld, deep⟩])) = ints (deepsOf l) ++ ints [deep] by simp [deepsOf, ints], List.length_append]
        exact this
      · rw [List.length_append, HNF.out]
        refine HM9.ext (fun x => rfl) (fun x => ?_)
        by_cases hx : x = o
        · subst hx; simp [oopsOf]
        · simp [oopsOf, hx]
      · intro k hk
        simp [Value.ownBlock] at hk
        subst hk
        exact HA5.out
      · intro k hk
        simp [Value.ownBlock] at hk
        subst hk
        exact HA7.out)
    clear hpt HM9 hg9
    go_region
    all_goals go_wp2_with fail
    all_goals go_ret
    all_goals exact HFIN.out
end Go.Proofs.YtpajpdjjpgbklaaDoor

namespace Go.Proofs.YtpajpdjjpgbklaaDoor
open Go.RowKit
attribute [local go_sem] Oper.semAt_some

theorem wrap64_mod (z : Int) : IntKind.u64.wrap z = z % 18446744073709551616 := by
  unfold IntKind.wrap
  simp [IntKind.signed, show IntKind.u64.bits = 64 from rfl]
def digS (d x : Nat) : Nat := (d ^^^ x) * 1099511628211 % 18446744073709551616
def digM (bs : List Nat) : Nat := bs.foldl digS 14695981039346656037
theorem digM_lt (bs : List Nat) : digM bs < 18446744073709551616 := by
  unfold digM
  have : ∀ (l : List Nat) (d : Nat), d < 18446744073709551616 → l.foldl digS d < 18446744073709551616 := by
    intro l
    induction l with
    | nil => exact fun d h => h
    | cons x l ih => exact fun d h => ih _ (Nat.mod_lt _ (by omega))
  exact this bs _ (by omega)
theorem foldl_take1 (g : Nat → Nat → Nat) (d : Nat) {bs : List Nat} {k : Nat} (hk : k < bs.length) : (bs.take (k + 1)).foldl g d = g ((bs.take k).foldl g d) (bs.getD k 0) := by
  have e : bs.take (k + 1) = bs.take k ++ [bs[k]] := by rw [List.take_add_one, List.getElem?_eq_getElem hk]; rfl
  rw [e, List.foldl_append, List.getD_eq_getElem?_getD, List.getElem?_eq_getElem hk]
  rfl
theorem digM_take {bs : List Nat} {k : Nat} (hk : k < bs.length) : digM (bs.take (k + 1)) = digS (digM (bs.take k)) (bs.getD k 0) := foldl_take1 digS _ hk
set_option maxHeartbeats 1000000 in
theorem signed_any (n : Int) (h1 : -1073741824 ≤ n) (h2 : n ≤ 1073741823) (w : World) : Calls Tryd.prog 85 #[.int .i64 n] w (Said (.int .u64 (if 0 ≤ n then 2 * n else -2 * n - 1)) w) := by
  by_cases h : 0 ≤ n
  · have hd : decide (0 ≤ n) = true := by simpa using h
    rw [if_pos h]
    go_enter Tryd.func85, Tryd.ntmps85
    go_wp2_with fail
    go_ret
    exact ⟨rfl, rfl⟩
  · have hd : decide (0 ≤ n) = false := by simpa using h
    rw [if_neg h, show -2 * n - 1 = 2 * -(n + 1) + 1 by omega]
    go_enter Tryd.func85, Tryd.ntmps85
    go_wp2_with fail
    go_ret
    exact ⟨rfl, rfl⟩

set_option maxHeartbeats 2000000 in
theorem cdigest_any (A : Option Addr) (n c : Nat) (bs : List Nat) (w : World) (hn : n ≤ 9223372036854775807) (hr : Reads w w.heap.size 1 A n (u8c bs)) (hb : ∀ x ∈ bs, x < 256) :
    Calls Tryd.prog 27 #[.slice A n c] w (Said (.int .u64 (digM bs : Nat)) w) := by
  have hl : bs.length = n := by have := hr.1; simpa [u8c] using this
  have HL := Lib.hid hl
  have HR := Lib.hid hr
  have HB := Lib.hid hb
  clear hl hr hb
  go_enter Tryd.func27, Tryd.ntmps27
  go_wp2_with fail
  go_loop [3, 8] (fun d i => ∃ k : Nat, k ≤ n ∧ i = .int .i64 k ∧ d = .int .u64 (digM (bs.take k) : Nat)) (fun _ i => n - (intOf i).toNat)
  case atStart => exact ⟨0, by omega, rfl, rfl⟩
  case round =>
    obtain ⟨k, hk, rfl, rfl⟩ := hrel
    have hlt0 := digM_lt (bs.take k)
    by_cases hlt : k < n
    · have hkl : k < bs.length := by rw [HL.out]; exact hlt
      obtain ⟨ad, u0, rfl, _, hx, hcell⟩ := HR.out.at_ hlt
      rw [show (u8c bs)[k]? = some (.int .u8 ((bs.getD k 0 : Nat) : Int)) by simp [u8c, List.getD, hkl]] at hx
      injection hx with hx
      subst hx
      have hy : bs.getD k 0 < 256 := by
        rw [List.getD_eq_getElem?_getD, List.getElem?_eq_getElem hkl]
        exact HB.out _ (List.getElem_mem _)
      have HN := Lib.hid (digM_take hkl)
      generalize bs.getD k 0 = y at *
      generalize digM (bs.take k) = v at *
      have hxo : bits .xor .u64 (v : Int) (y : Int) = ((v ^^^ y : Nat) : Int) := u64_xor_nat _ _ hlt0 (by omega)
      have hxl : v ^^^ y < 18446744073709551616 := Nat.xor_lt_two_pow (n := 64) (by omega) (by omega)
      have HS := Lib.hid (show ((digS v y : Nat) : Int) = ((v ^^^ y : Nat) : Int) * 1099511628211 % 18446744073709551616 by unfold digS; omega)
      generalize v ^^^ y = z at *
      go_wp2_with fail
      go_round
      case rel => exact ⟨k + 1, by omega, by go_num, by rw [HN.out, HS.out]; first | rfl | rw [wrap64_mod]⟩
      case measure => simp [intOf]; omega
    · obtain rfl : k = n := by omega
      have HT := Lib.hid (show digM (bs.take k) = digM bs by rw [List.take_of_length_le (by rw [HL.out]; exact Nat.le_refl _)])
      go_wp2_with fail
      go_ret
      exact ⟨by rw [HT.out]; rfl, rfl⟩

set_option maxHeartbeats 2000000 in
theorem rdigest_any (A : Option Addr) (n c : Nat) (bs : List Nat) (w : World) (hn : n ≤ 9223372036854775807) (hr : Reads w w.heap.size 1 A n (u8c bs)) (hb : ∀ x ∈ bs, x < 256) :
    Calls Tryd.prog 28 #[.slice A n c] w (Said (.int .u64 (digM bs : Nat)) w) := by
  have hl : bs.length = n := by have := hr.1; simpa [u8c] using this
  have HL := Lib.hid hl
  have HR := Lib.hid hr
  have HB := Lib.hid hb
  clear hl hr hb
  go_enter Tryd.func28, Tryd.ntmps28
  go_wp2_with fail
  go_loop [3, 8] (fun d i => ∃ k : Nat, k ≤ n ∧ i = .int .i64 k ∧ d = .int .u64 (digM (bs.take k) : Nat)) (fun _ i => n - (intOf i).toNat)
  case atStart => exact ⟨0, by omega, rfl, rfl⟩
  case round =>
    obtain ⟨k, hk, rfl, rfl⟩ := hrel
    have hlt0 := digM_lt (bs.take k)
    by_cases hlt : k < n
    · have hkl : k < bs.length := by rw [HL.out]; exact hlt
      obtain ⟨ad, u0, rfl, _, hx, hcell⟩ := HR.out.at_ hlt
      rw [show (u8c bs)[k]? = some (.int .u8 ((bs.getD k 0 : Nat) : Int)) by simp [u8c, List.getD, hkl]] at hx
      injection hx with hx
      subst hx
      have hy : bs.getD k 0 < 256 := by
        rw [List.getD_eq_getElem?_getD, List.getElem?_eq_getElem hkl]
        exact HB.out _ (List.getElem_mem _)
      have HN := Lib.hid (digM_take hkl)
      generalize bs.getD k 0 = y at *
      generalize digM (bs.take k) = v at *
      have hxo : bits .xor .u64 (v : Int) (y : Int) = ((v ^^^ y : Nat) : Int) := u64_xor_nat _ _ hlt0 (by omega)
      have hxl : v ^^^ y < 18446744073709551616 := Nat.xor_lt_two_pow (n := 64) (by omega) (by omega)
      have HS := Lib.hid (show ((digS v y : Nat) : Int) = ((v ^^^ y : Nat) : Int) * 1099511628211 % 18446744073709551616 by unfold digS; omega)
      generalize v ^^^ y = z at *
      go_wp2_with fail
      go_round
      case rel => exact ⟨k + 1, by omega, by go_num, by rw [HN.out, HS.out]; first | rfl | rw [wrap64_mod]⟩
      case measure => simp [intOf]; omega
    · obtain rfl : k = n := by omega
      have HT := Lib.hid (show digM (bs.take k) = digM bs by rw [List.take_of_length_le (by rw [HL.out]; exact Nat.le_refl _)])
      go_wp2_with fail
      go_ret
      exact ⟨by rw [HT.out]; rfl, rfl⟩
end Go.Proofs.YtpajpdjjpgbklaaDoor

namespace Go.Proofs.YtpajpdjjpgbklaaDoor
open Go.RowKit Go.Maps
attribute [local go_sem] Oper.semAt_some

/-- A value's count. -/
def zig (n : Int) : Nat := (2 * (if 0 ≤ n then 2 * n else -2 * n - 1) + 1).toNat
def refM (l : List Nd) (o : Nat) : Nat := if kindM o = 0 then 0 else if kindM o = 2 then 2 * numF l o else zig (smallV o)
theorem zig_pos {n : Int} (h : 0 ≤ n) : (zig n : Int) = 2 * (2 * n) + 1 := by unfold zig; rw [if_pos h]; omega
theorem zig_neg {n : Int} (h : ¬ 0 ≤ n) : (zig n : Int) = 2 * (-2 * n - 1) + 1 := by unfold zig; rw [if_neg h]; omega
theorem refM_lt (l : List Nd) (o : Nat) (ho : o < 4294967296) (hl : l.length ≤ 4000000) : refM l o < 8589934592 := by
  unfold refM
  have h1 := smallV_lo o ho
  have h2 := smallV_hi o ho
  have h3 := numF_le l o
  split
  · omega
  · split
    · omega
    · by_cases h : 0 ≤ smallV o
      · have := zig_pos h; omega
      · have := zig_neg h; omega

set_option maxRecDepth 100000 in
set_option maxHeartbeats 2000000 in
theorem reference_any {w : World} {B gG mB : Nat} {hv vm vd : Value} {l : List Nd} (G : GAt w B gG mB hv vm vd l) (o : Nat) (ho : o < 4294967296) (hl : l.length ≤ 4000000) :
    Calls Tryd.prog 46 #[.pointer (some ⟨gG, 0, none⟩), .int .u32 o] w (Said (.int .u64 (refM l o : Nat)) w) := by
  have HK := Lib.hid (ckind_any o ho w)
  by_cases hk0 : kindM o = 0
  · have HF := Lib.hid (show refM l o = 0 by unfold refM; rw [if_pos hk0])
    rw [hk0] at HK
    clear hk0 G
    go_enter Tryd.func46, Tryd.ntmps46
    go_wp2_with fail
    refine HK.out.mono ?_
    rintro e w' ⟨rfl, rfl⟩
    go_wp2_with fail
    go_ret
    exact ⟨by rw [HF.out]; rfl, rfl⟩
  · by_cases hk2 : kindM o = 2
    · have HF := Lib.hid (show (refM l o : Int) = 2 * (numF l o : Int) by unfold refM; rw [if_neg hk0, if_pos hk2]; omega)
      rw [hk2] at HK
      have c2 := G.box.cell 2
      have hlk := G.num.is.look oopTy ho
      have hnl := numF_le l o
      clear hk0 hk2 G
      generalize numF l o = k at *
      go_enter Tryd.func46, Tryd.ntmps46
      go_wp2_with fail
      refine HK.out.mono ?_
      rintro e w' ⟨rfl, rfl⟩
      go_wp2_with fail
      go_ret
      exact ⟨by rw [HF.out]; rfl, rfl⟩
    · have hk1 : kindM o = 1 := by have := (show kindM o = 0 ∨ kindM o = 1 ∨ kindM o = 2 by unfold kindM; split <;> (try split) <;> simp); omega
      have HZ := Lib.hid (show (refM l o : Nat) = zig (smallV o) by unfold refM; rw [if_neg hk0, if_neg hk2])
      rw [hk1] at HK
      have HV := Lib.hid (Value_any o ho (by unfold kindM at hk1; split at hk1 <;> (try split at hk1) <;> simp_all) w)
      have h1 := smallV_lo o ho
      have h2 := smallV_hi o ho
      clear hk0 hk1 hk2 G
      generalize smallV o = n at *
      by_cases hn : 0 ≤ n
      · have hd : decide (0 ≤ n) = true := by simpa using hn
        have HF := Lib.hid (zig_pos hn)
        have HW := Lib.hid (show IntKind.u64.wrap (IntKind.u64.wrap (2 * IntKind.u64.wrap (2 * n)) + 1) = 2 * (2 * n) + 1 by simp only [wrap64_mod]; omega)
        clear hn
        go_enter Tryd.func46, Tryd.ntmps46
        go_wp2_with fail
        refine HK.out.mono ?_
        rintro e w' ⟨rfl, rfl⟩
        go_wp2_with fail
        refine HV.out.mono ?_
        rintro e w' ⟨rfl, rfl⟩
        go_wp2_with fail
        go_ret
        exact ⟨by rw [HZ.out, HF.out, ← HW.out]; rfl, rfl⟩
      · have hd : decide (0 ≤ n) = false := by simpa using hn
        have HF := Lib.hid (zig_neg hn)
        have HW := Lib.hid (show IntKind.u64.wrap (IntKind.u64.wrap (2 * IntKind.u64.wrap (-2 * n - 1)) + 1) = 2 * (-2 * n - 1) + 1 by simp only [wrap64_mod]; omega)
        clear hn
        go_enter Tryd.func46, Tryd.ntmps46
        go_wp2_with fail
        refine HK.out.mono ?_
        rintro e w' ⟨rfl, rfl⟩
        go_wp2_with fail
        refine HV.out.mono ?_
        rintro e w' ⟨rfl, rfl⟩
        go_wp2_with fail
        go_ret
        exact ⟨by rw [HZ.out, HF.out, ← HW.out]; rfl, rfl⟩

theorem cnt7_len : ∀ (k x : Nat), x < 128 ^ (k + 1) → (cnt7 x).length ≤ k + 1
  | 0, x, h => by rw [cnt7_small (by simpa using h)]; simp
  | k + 1, x, h => by
    by_cases hx : x < 128
    · rw [cnt7_small hx]; simp
    · rw [cnt7_big hx]
      have := cnt7_len k (x / 128) (by rw [Nat.div_lt_iff_lt_mul (by omega)]; rw [Nat.pow_succ] at h; exact h)
      simp; omega
theorem cnt7_len10 {x : Nat} (h : x < 18446744073709551616) : (cnt7 x).length ≤ 10 := by
  have e : (128 : Nat) ^ (9 + 1) = 1180591620717411303424 := by decide
  exact cnt7_len 9 x (by rw [e]; omega)
/-- A row that grew: another block is as it was. -/
structure Grows (w w' : World) (v v' : Value) : Prop where
  g : w.grownBy w' v.ownBlock
  at_ : ∀ k, v'.ownBlock = some k → v.ownBlock = some k ∨ w.heap.size ≤ k
theorem Grows.refl (w : World) (v : Value) : Grows w w v v := ⟨World.grownBy.refl w _, fun _ h => .inl h⟩
theorem Grows.size {w w' : World} {v v' : Value} (h : Grows w w' v v') : w.heap.size ≤ w'.heap.size := h.g.size
theorem Grows.trans {a b c : World} {u v x : Value} (h : Grows a b u v) (h' : Grows b c v x) : Grows a c u x := by
  refine ⟨⟨h'.g.os.trans h.g.os, h'.g.tape.trans h.g.tape, h'.g.output.trans h.g.output, Nat.le_trans h.g.size h'.g.size, fun k hk hn => ?_⟩, fun k hk => ?_⟩
  · refine (h'.g.block k (by have := h.g.size; omega) (fun e => ?_)).trans (h.g.block k hk hn)
    rcases h.at_ k e.symm with e' | e'
    · exact hn e'.symm
    · omega
  · rcases h'.at_ k hk with e | e
    · exact h.at_ k e
    · right; have := h.g.size; omega
theorem Grows.below {a b c : World} {u v : Value} (h : Grows a b u v) (hb : Below b.heap.size b c) : Grows a c u v :=
  h.trans ⟨⟨hb.os, hb.tape, hb.output, hb.size, fun k hk _ => hb.block k hk⟩, fun _ e => .inl e⟩
theorem Grows.of {a b : World} {u v : Value} (hg : a.grownBy b u.ownBlock) (ha : v.ownBlock = u.ownBlock ∨ v.ownBlock = some a.heap.size) : Grows a b u v :=
  ⟨hg, fun k hk => by rcases ha with e | e
                      · exact .inl (e ▸ hk)
                      · rw [e] at hk; injection hk with hk; exact .inr (by omega)⟩
/-- What counts leaves of one number. -/
def CountsP (B : Nat) (v : Value) (bs : List Nat) (x : Nat) (w : World) (e : Ending) (w' : World) : Prop :=
  ∃ v', e = .returned v' ∧ w'.ownsRow B 5 1 v' (bs ++ cnt7 x).length (u8c (bs ++ cnt7 x)) ∧ Grows w w' v v'
set_option maxRecDepth 100000 in
theorem or128_any (m : Nat) : bits .or .u8 ((m : Int) % 256) 128 = ((m % 128 + 128 : Nat) : Int) := by
  have h : ∀ a : Fin 256, (a.val ||| 128) = a.val % 128 + 128 := by decide
  have h1 := u8_or_nat (m % 256) 128 (by omega) (by omega)
  rw [h ⟨m % 256, by omega⟩] at h1
  simp only at h1
  rw [show ((m : Int) % 256) = ((m % 256 : Nat) : Int) by omega, show (128 : Int) = ((128 : Nat) : Int) from rfl, h1]
  congr 1
  omega

set_option maxRecDepth 100000 in
set_option maxHeartbeats 4000000 in
theorem counts_any {w : World} {B n : Nat} {v : Value} {bs : List Nat} (hown : w.ownsRow B 5 1 v n (u8c bs)) (A : Option Addr) (c x : Nat) (hn : n ≤ 100000000000000) (hr : Reads w w.heap.size 1 A 1 [.int .u64 x]) (hx : x < 18446744073709551616) (hB : B ≤ w.heap.size) :
    Calls Tryd.prog 45 #[v, .slice A 1 c] w (CountsP B v bs x w) := by
  have hl : bs.length = n := by have := hown.1; simpa [u8c] using this
  have HO := Lib.hid (show w.ownsRow B 5 1 v bs.length (u8c bs) from hl ▸ hown)
  have hc10 := cnt7_len10 hx
  obtain ⟨ad, u0, rfl, _, hgx, hcell⟩ := hr.at_ (k := 0) (by omega)
  have HR := Lib.hid hr
  replace hcell : w.cell? ad = some u0 := hcell
  have hu : u0 = .int .u64 (x : Int) := by simpa using hgx.symm
  subst hu
  obtain ⟨i0, hi0, hz0, hz1, hz2⟩ := info_parts info_u8
  clear hown hgx hr
  go_enter Tryd.func45, Tryd.ntmps45
  go_wp2_with fail
  go_loopw [0, 6, 9] (fun b y i wr => (i = .int .i64 0 ∧ v = b ∧ wr.ownsRow B 5 1 b bs.length (u8c bs) ∧ wr.cell? ad = some (.int .u64 x) ∧ Grows w wr v b) ∨ (i = .int .i64 1 ∧ wr.ownsRow B 5 1 b (bs ++ cnt7 x).length (u8c (bs ++ cnt7 x)) ∧ Grows w wr v b)) (fun _ _ i _ => 1 - (intOf i).toNat)
  case atStart => exact .inl ⟨rfl, rfl, HO.out, hcell, .refl _ _⟩
  case round =>
    clear hcell HO
    rcases hrel with ⟨rfl, rfl, hown, hcell, hgr⟩ | ⟨rfl, hown, hgr⟩
    · have HOW := Lib.hid hown
      have HGR := Lib.hid hgr
      clear hown hgr
      go_wp2_with fail
      clear hcell
      go_loopw [0, 6] (fun b y wr => ∃ m bs', y = .int .u64 (m : Nat) ∧ m < 18446744073709551616 ∧ bs' ++ cnt7 m = bs ++ cnt7 x ∧ wr.ownsRow B 5 1 b (bs' : List Nat).length (u8c bs') ∧ Grows w wr v b) (fun _ y _ => (intOf y).toNat)
      case atStart => exact ⟨x, bs, rfl, by omega, rfl, HOW.out, HGR.out⟩
      case round =>
        clear HOW HGR
        obtain ⟨m, bs', rfl, hm, hcat, hown, hgr⟩ := hrel
        have HOW := Lib.hid hown
        have HGR := Lib.hid hgr
        have HCAT := Lib.hid hcat
        clear hown hgr hcat
        have hBw : B ≤ wr.heap.size := Nat.le_trans hB HGR.out.size
        by_cases h128 : m < 128
        · have hbl : bs'.length ≤ bs.length + 10 := by have := congrArg List.length HCAT.out; simp at this; omega
          have hd : decide (128 ≤ (m : Int)) = false := by simp; omega
          have hm8 : ((m : Int) % 256) = (m : Int) := by omega
          have HC1 := Lib.hid (show bs ++ cnt7 x = bs' ++ [m] by rw [← HCAT.out, cnt7_small h128])
          clear h128 hm
          go_wp2_with (at_builtin; refine wpList_append_any _ rfl (.tmp 23) (.tmp 26) _ rfl B 5 i0 _ 1 1 Tryd.underlying46 hi0 hz0 hz1 hz2 rfl (by omega) u0 bs'.length _ rfl (HOW.out.alloc _) (wr.heap.size + 1) (some ⟨wr.heap.size, 0, none⟩) 1 1 (u8c [m]) rfl ⟨rfl, fun _ => ⟨_, rfl, by simp, cell_one_new _ _ _⟩⟩ (one_u8c _) (by simp only [maxLen]; omega) (by omega) (by simp; omega) ?_; intro v1 w5 hown5 hgrow hat5)
          go_roundw
          case rel =>
            refine .inr ⟨by go_num, ?_, ?_⟩
            · rw [HC1.out]
              unfold u8c at hown5 ⊢
              rw [List.map_append, List.length_append]
              exact hown5
            · exact (HGR.out.below ((Below.refl _ wr).alloc (Nat.le_refl _) _)).trans (.of hgrow hat5)
          case measure => simp [intOf]
        · have hbl : bs'.length + 1 ≤ bs.length + 10 := by have := congrArg List.length HCAT.out; rw [cnt7_big h128] at this; simp at this; omega
          have hd : decide (128 ≤ (m : Int)) = true := by simp; omega
          have hor := or128_any m
          have HC1 := Lib.hid (show (bs' ++ [m % 128 + 128]) ++ cnt7 (m / 128) = bs ++ cnt7 x by rw [← HCAT.out, cnt7_big h128]; simp)
          have HD := Lib.hid (show m / 128 < 18446744073709551616 ∧ m / 128 < m by omega)
          clear h128 hm
          go_wp2_with (at_builtin; refine wpList_append_any _ rfl (.tmp 15) (.tmp 19) _ rfl B 5 i0 _ 1 1 Tryd.underlying46 hi0 hz0 hz1 hz2 rfl (by omega) u0 bs'.length _ rfl (HOW.out.alloc _) (wr.heap.size + 1) (some ⟨wr.heap.size, 0, none⟩) 1 1 (u8c [m % 128 + 128]) rfl ⟨rfl, fun _ => ⟨_, rfl, by simp, cell_one_new _ _ _⟩⟩ (one_u8c _) (by simp only [maxLen]; omega) (by omega) (by simp; omega) ?_; intro v1 w5 hown5 hgrow hat5)
          go_roundw
          case rel =>
            refine ⟨m / 128, bs' ++ [m % 128 + 128], by go_num, HD.out.1, HC1.out, ?_, (HGR.out.below ((Below.refl _ wr).alloc (Nat.le_refl _) _)).trans (.of hgrow hat5)⟩
            unfold u8c at hown5 ⊢
            rw [List.map_append, List.length_append]
            exact hown5
          case measure => have := HD.out.2; simp [intOf]; omega
    · have HOW := Lib.hid hown
      have HGR := Lib.hid hgr
      clear hown hgr
      go_wp2_with fail
      go_ret
      exact ⟨_, rfl, HOW.out, HGR.out⟩

/-- The document's Count of one number. -/
def RCountP (x : Nat) (w : World) (e : Ending) (w' : World) : Prop :=
  ∃ v', e = .returned v' ∧ w'.ownsRow w.heap.size 5 1 v' (cnt7 x).length (u8c (cnt7 x)) ∧ Below w.heap.size w w'
set_option maxRecDepth 100000 in
set_option maxHeartbeats 4000000 in
theorem rcount_any (x : Nat) (hx : x < 18446744073709551616) (w : World) : Calls Tryd.prog 57 #[.int .u64 x] w (RCountP x w) := by
  have hc10 := cnt7_len10 hx
  obtain ⟨i0, hi0, hz0, hz1, hz2⟩ := info_parts info_u8
  have HO := Lib.hid (show w.ownsRow w.heap.size 5 1 (.slice none 0 0) ([] : List Nat).length (u8c []) from ⟨rfl, .inl ⟨rfl, rfl⟩⟩)
  go_enter Tryd.func57, Tryd.ntmps57
  go_wp2_with fail
  go_loopw [0, 3] (fun y b wr => ∃ m bs', y = .int .u64 (m : Nat) ∧ m < 18446744073709551616 ∧ bs' ++ cnt7 m = cnt7 x ∧ wr.ownsRow w.heap.size 5 1 b (bs' : List Nat).length (u8c bs') ∧ Below w.heap.size w wr) (fun y _ _ => (intOf y).toNat)
  case atStart => exact ⟨x, [], rfl, hx, rfl, HO.out, Below.refl _ _⟩
  case round =>
    clear HO
    obtain ⟨m, bs', rfl, hm, hcat, hown, hgr⟩ := hrel
    have HOW := Lib.hid hown
    have HGR := Lib.hid hgr
    have HCAT := Lib.hid hcat
    clear hown hgr hcat
    have hBw : w.heap.size ≤ wr.heap.size := HGR.out.size
    by_cases h128 : m < 128
    · have hbl : bs'.length ≤ 10 := by have := congrArg List.length HCAT.out; simp at this; omega
      have hd : decide (128 ≤ (m : Int)) = false := by simp; omega
      have hm8 : ((m : Int) % 256) = (m : Int) := by omega
      have HC1 := Lib.hid (show cnt7 x = bs' ++ [m] by rw [← HCAT.out, cnt7_small h128])
      clear h128 hm
      go_wp2_with (at_builtin; refine wpList_append_any _ rfl (.tmp 15) (.tmp 18) _ rfl w.heap.size 5 i0 _ 1 1 Tryd.underlying46 hi0 hz0 hz1 hz2 rfl (by omega) u3 bs'.length _ rfl (HOW.out.alloc _) (wr.heap.size + 1) (some ⟨wr.heap.size, 0, none⟩) 1 1 (u8c [m]) rfl ⟨rfl, fun _ => ⟨_, rfl, by simp, cell_one_new _ _ _⟩⟩ (one_u8c _) (by simp only [maxLen]; omega) (by omega) (by simp; omega) ?_; intro v1 w5 hown5 hgrow hat5)
      go_ret
      refine ⟨_, rfl, ?_, below_grown (Nat.le_refl _) (HGR.out.alloc HGR.out.size _) hgrow (fun q hq => (HOW.out.lt q hq).1)⟩
      rw [HC1.out]
      unfold u8c at hown5 ⊢
      rw [List.map_append, List.length_append]
      exact hown5
    · have hbl : bs'.length + 1 ≤ 10 := by have := congrArg List.length HCAT.out; rw [cnt7_big h128] at this; simp at this; omega
      have hd : decide (128 ≤ (m : Int)) = true := by simp; omega
      have HC1 := Lib.hid (show (bs' ++ [m % 128 + 128]) ++ cnt7 (m / 128) = cnt7 x by rw [← HCAT.out, cnt7_big h128]; simp)
      have HD := Lib.hid (show m / 128 < 18446744073709551616 ∧ m / 128 < m by omega)
      have ht : (m : Int).tmod 128 = (m : Int) % 128 := Int.tmod_eq_emod_of_nonneg (by omega)
      have hq : (m : Int).tdiv 128 = (m : Int) / 128 := Int.tdiv_eq_ediv_of_nonneg (by omega)
      have hwq : IntKind.u64.wrap ((m : Int) / 128) = (m : Int) / 128 := by rw [wrap64_mod]; omega
      clear h128 hm
      go_wp2_with (at_builtin; refine wpList_append_any _ rfl (.tmp 6) (.tmp 11) _ rfl w.heap.size 5 i0 _ 1 1 Tryd.underlying46 hi0 hz0 hz1 hz2 rfl (by omega) u3 bs'.length _ rfl (HOW.out.alloc _) (wr.heap.size + 1) (some ⟨wr.heap.size, 0, none⟩) 1 1 (u8c [m % 128 + 128]) rfl ⟨rfl, fun _ => ⟨_, rfl, by simp, cell_one_new _ _ _⟩⟩ (one_u8c _) (by simp only [maxLen]; omega) (by omega) (by simp; omega) ?_; intro v1 w5 hown5 hgrow hat5)
      go_roundw
      case rel =>
        refine ⟨m / 128, bs' ++ [m % 128 + 128], by go_num, HD.out.1, HC1.out, ?_, below_grown (Nat.le_refl _) (HGR.out.alloc HGR.out.size _) hgrow (fun q hq => (HOW.out.lt q hq).1)⟩
        unfold u8c at hown5 ⊢
        rw [List.map_append, List.length_append]
        exact hown5
      case measure => have := HD.out.2; simp [intOf]; omega
end Go.Proofs.YtpajpdjjpgbklaaDoor
