/- Diff, Same. -/
/- Bytes of a row as a string. -/
/- Count: what its rounds keep. -/
import Derived.Test.YtpajpdjjpgbklaaDoorJWalk
import Derived.Test.YtpajpdjjpgbklaaDoorJRCanon
import Derived.Test.YtpajpdjjpgbklaaDoorJCanon
import Derived.Laws.BytesArg
set_option linter.unusedVariables false
set_option linter.unusedSimpArgs false
set_option linter.unusedSectionVars false
namespace Go.Proofs.YtpajpdjjpgbklaaDoor
open Go.RowKit Go.Maps
attribute [local go_sem] Oper.semAt_some

theorem bfsM_len {nN : Nat → Nat} {nA : Nat → Nat → Nat} {L : List Nd} : ∀ (f i : Nat) (l : List Nd), l.length ≤ 65536 → bfsM nN nA f i l = some L → L.length ≤ 65536
  | 0, _, _, _, h => by simp [bfsM] at h
  | f + 1, i, l, hl, h => by
    unfold bfsM at h
    split at h
    · split at h
      · cases h
      · rename_i hr; exact bfsM_len f _ _ (by omega) h
    · injection h with h; subst h; exact hl
theorem seenM_len {nN : Nat → Nat} {nA : Nat → Nat → Nat} {fr : List Nat} {L : List Nd} (h : seenM nN nA fr = some L) : L.length ≤ 65536 := by
  unfold seenM at h
  split at h
  · cases h
  · rename_i hr; exact bfsM_len _ _ _ (by omega) h
def HM.seenE (h : HM) (fr : List Nat) : Nat := if (seenM h.nmN h.nmAt fr).isSome then 0 else 2
theorem seenE_or (h : HM) (fr : List Nat) : h.seenE fr = 0 ∨ h.seenE fr = 2 := by unfold HM.seenE; split <;> simp
/-- The error's number, the difference. -/
def diffE (g h : HM) (a b : List Nat) : Nat := if g.fitsB a = true ∧ h.fitsB b = true then (if a.length = b.length ∧ g.seenE a = 0 ∧ h.seenE b = 0 then 0 else 2) else 3
def diffV (g h : HM) (ser : Bool) (a b : List Nat) : Df := if diffE g h a b = 0 then diffD g.nmN g.nmAt h.nmAt (g.odM h ser) a b else ⟨0, [], 0⟩
def SeenF (h : HM) (fr : List Nat) (w : World) (e : Ending) (w' : World) : Prop := ∃ v, e = .returned (.tuple #[v, .int .i64 (h.seenE fr : Nat)]) ∧ Below w.heap.size w w'
theorem seen_flat {w : World} {p : HP} {h : HM} {ls : List Ob} (H : HAt w p h) (G : h.Good ls) (hs : Spares w) (A : Option Addr) (n c : Nat) (fr : List Nat) (hn : n ≤ 9223372036854775807) (hr : Reads w w.heap.size 1 A n (u32s fr)) (h32 : ∀ x ∈ fr, x < 4294967296) (hf : h.fitsB fr = true) :
    Calls Tryd.prog 35 #[ptr p.g, .slice A n c] w (SeenF h fr w) := by
  refine (seen_any H G G.laid.heads hs A n c fr hn hr h32).mono ?_
  rintro e w1 ⟨hb1, ⟨h1, rfl⟩ | ⟨h1, h2, rfl⟩ | ⟨h1, l, gG, mB, vm, vd, h2, h3, rfl, -⟩⟩
  · rw [hf] at h1; cases h1
  · exact ⟨_, by unfold HM.seenE; rw [h2]; rfl, hb1⟩
  · exact ⟨_, by unfold HM.seenE; rw [h2]; rfl, hb1⟩
/-- What Diff answers. -/
def DiffP (g h : HM) (ser : Bool) (a b : List Nat) (w : World) (e : Ending) (w' : World) : Prop :=
  Below w.heap.size w w' ∧ ∃ A c, e = .returned (.tuple #[.agg #[.int .i64 (diffV g h ser a b).kind, .slice A (diffV g h ser a b).path.length c, .int .i64 (diffV g h ser a b).at_], .int .i64 (diffE g h a b : Nat)]) ∧ Reads w' w'.heap.size 1 A (diffV g h ser a b).path.length (intZ (diffV g h ser a b).path) ∧ (diffV g h ser a b).path.length ≤ c
theorem diffP_none {g h : HM} {ser : Bool} {a b : List Nat} {w w' : World} (hb : Below w.heap.size w w') (hE : diffE g h a b ≠ 0) : DiffP g h ser a b w (.returned (.tuple #[.agg #[.int .i64 0, .slice none 0 0, .int .i64 0], .int .i64 (diffE g h a b : Nat)])) w' := by
  have hv : diffV g h ser a b = ⟨0, [], 0⟩ := by unfold diffV; rw [if_neg hE]
  exact ⟨hb, none, 0, by rw [hv]; rfl, by rw [hv]; exact Reads.none_, by rw [hv]; exact Nat.le_refl _⟩
/-- The pair as Diff makes it. -/
def pairW (w : World) (pg qg : Nat) : World :=
  (((((w.alloc (.map #[] 0)).alloc (.cells #[.pointer (some ⟨pg, 0, none⟩), .slice none 0 0, .map (some w.heap.size), .slice none 0 0] 94)).alloc (.map #[] 0)).alloc (.cells #[.pointer (some ⟨qg, 0, none⟩), .slice none 0 0, .map (some (w.heap.size + 1 + 1)), .slice none 0 0] 94)).alloc
    (.cells #[.pointer (some ⟨w.heap.size + 1, 0, none⟩), .pointer (some ⟨w.heap.size + 1 + 1 + 1, 0, none⟩), .slice none 0 0, .int .i64 0, .slice none 0 0, .int .i64 0] 97))
theorem pair_made {W0 w : World} (hb : Below W0.heap.size W0 w) (pg qg : Nat) : Below W0.heap.size W0 (pairW w pg qg) ∧
    PAt (pairW w pg qg) W0.heap.size ⟨w.heap.size + 1 + 1 + 1 + 1, w.heap.size + 1, w.heap.size, w.heap.size + 1 + 1 + 1, w.heap.size + 1 + 1⟩ (.pointer (some ⟨pg, 0, none⟩)) (.pointer (some ⟨qg, 0, none⟩)) ⟨.slice none 0 0, .slice none 0 0, .slice none 0 0, .slice none 0 0, .slice none 0 0⟩ (.int .i64 0) (.slice none 0 0) (.int .i64 0) [] [] [] [] := by
  have h0 := hb.size
  have hn : ∀ (W : World) (e : TypeId) (B : Nat), W.ownsRow B e 1 (.slice none 0 0) 0 [] := fun W e B => ⟨rfl, .inl ⟨rfl, rfl⟩⟩
  unfold pairW
  have s1 : (w.alloc (.map #[] 0)).heap.size = w.heap.size + 1 := World.size_alloc ..
  generalize hA : w.alloc (.map #[] 0) = W1 at *
  have m1 : MapOk 50 W1 w.heap.size 0 (numF []) (fun x => decide (x ∈ oopsOf [])) := by rw [← hA]; exact (MapOk.made w _).ext (fun _ => rfl) (fun x => by simp [oopsOf])
  have b1 : Below W0.heap.size W0 W1 := by rw [← hA]; exact hb.alloc h0 _
  clear hA
  have s2 := World.size_alloc W1 (.cells #[.pointer (some ⟨pg, 0, none⟩), .slice none 0 0, .map (some w.heap.size), .slice none 0 0] 94)
  have g2 := Blk.new W1 94 #[.pointer (some ⟨pg, 0, none⟩), .slice none 0 0, .map (some w.heap.size), .slice none 0 0]
  have a2 := (Below.refl W1.heap.size W1).alloc (Nat.le_refl _) (.cells #[.pointer (some ⟨pg, 0, none⟩), .slice none 0 0, .map (some w.heap.size), .slice none 0 0] 94)
  generalize W1.alloc (.cells #[.pointer (some ⟨pg, 0, none⟩), .slice none 0 0, .map (some w.heap.size), .slice none 0 0] 94) = W2 at *
  have s3 := World.size_alloc W2 (.map #[] 0)
  have m3 : MapOk 50 (W2.alloc (.map #[] 0)) W2.heap.size 0 (numF []) (fun x => decide (x ∈ oopsOf [])) := (MapOk.made W2 _).ext (fun _ => rfl) (fun x => by simp [oopsOf])
  have a3 := (Below.refl W2.heap.size W2).alloc (Nat.le_refl _) (.map #[] 0)
  generalize W2.alloc (.map #[] 0) = W3 at *
  have s4 := World.size_alloc W3 (.cells #[.pointer (some ⟨qg, 0, none⟩), .slice none 0 0, .map (some (w.heap.size + 1 + 1)), .slice none 0 0] 94)
  have g4 := Blk.new W3 94 #[.pointer (some ⟨qg, 0, none⟩), .slice none 0 0, .map (some (w.heap.size + 1 + 1)), .slice none 0 0]
  have a4 := (Below.refl W3.heap.size W3).alloc (Nat.le_refl _) (.cells #[.pointer (some ⟨qg, 0, none⟩), .slice none 0 0, .map (some (w.heap.size + 1 + 1)), .slice none 0 0] 94)
  generalize W3.alloc (.cells #[.pointer (some ⟨qg, 0, none⟩), .slice none 0 0, .map (some (w.heap.size + 1 + 1)), .slice none 0 0] 94) = W4 at *
  have s5 := World.size_alloc W4 (.cells #[.pointer (some ⟨w.heap.size + 1, 0, none⟩), .pointer (some ⟨w.heap.size + 1 + 1 + 1, 0, none⟩), .slice none 0 0, .int .i64 0, .slice none 0 0, .int .i64 0] 97)
  have g5 := Blk.new W4 97 #[.pointer (some ⟨w.heap.size + 1, 0, none⟩), .pointer (some ⟨w.heap.size + 1 + 1 + 1, 0, none⟩), .slice none 0 0, .int .i64 0, .slice none 0 0, .int .i64 0]
  have a5 := (Below.refl W4.heap.size W4).alloc (Nat.le_refl _) (.cells #[.pointer (some ⟨w.heap.size + 1, 0, none⟩), .pointer (some ⟨w.heap.size + 1 + 1 + 1, 0, none⟩), .slice none 0 0, .int .i64 0, .slice none 0 0, .int .i64 0] 97)
  generalize W4.alloc (.cells #[.pointer (some ⟨w.heap.size + 1, 0, none⟩), .pointer (some ⟨w.heap.size + 1 + 1 + 1, 0, none⟩), .slice none 0 0, .int .i64 0, .slice none 0 0, .int .i64 0] 97) = W5 at *
  have b35 := below_top a4 a5
  have b25 := below_top a3 b35
  have b15 := below_top a2 b25
  rw [s4, s3, s2, s1] at g5
  rw [s3, s2, s1] at g4
  rw [s1] at g2
  rw [s2, s1] at m3
  refine ⟨below_top b1 b15, ⟨g5, ⟨g2.below b25 (by omega), hn _ _ _, hn _ _ _, m1.below b15, by dsimp only; omega, by dsimp only; omega, by omega⟩, ⟨g4.below a5 (by omega), hn _ _ _, hn _ _ _, m3.below b35, by dsimp only; omega, by dsimp only; omega, by omega⟩, hn _ _ _, rfl, (fun i hi => by simp at hi), by dsimp only; omega, by dsimp only; omega, by dsimp only; omega, (fun k h => by cases h), (fun k h => by cases h)⟩⟩
set_option maxRecDepth 100000 in
set_option maxHeartbeats 4000000 in
theorem diff_any {w : World} {p q : HP} {g h : HM} {lg lh : List Ob} (HA : HAt w p g) (GA : g.Good lg) (HB : HAt w q h) (GB : h.Good lh) (sp : Spares w) (ser : Bool) (A1 A2 : Option Addr) (n1 n2 c1 c2 : Nat) (a b : List Nat) (hn1 : n1 ≤ 9223372036854775807) (hn2 : n2 ≤ 9223372036854775807)
    (hra : Reads w w.heap.size 1 A1 n1 (u32s a)) (hrb : Reads w w.heap.size 1 A2 n2 (u32s b)) (ha32 : ∀ y ∈ a, y < 4294967296) (hb32 : ∀ y ∈ b, y < 4294967296) :
    Calls Tryd.prog 10 #[ptr p.g, ptr q.g, .bool ser, .slice A1 n1 c1, .slice A2 n2 c2] w (DiffP g h ser a b w) := by
  have hla : a.length = n1 := by have := hra.1; rw [u32s_len] at this; omega
  have hlb : b.length = n2 := by have := hrb.1; rw [u32s_len] at this; omega
  have HFA := Lib.hid (fun (w' : World) (hb : Below w.heap.size w w') => cfits_any (HA.below hb) GA.fit A1 n1 c1 a hn1 ((hra.below hb).more hb.size) ha32)
  have HFB := Lib.hid (fun (w' : World) (hb : Below w.heap.size w w') => cfits_any (HB.below hb) GB.fit A2 n2 c2 b hn2 ((hrb.below hb).more hb.size) hb32)
  have HSA := Lib.hid (fun (w' : World) (hb : Below w.heap.size w w') (hf : g.fitsB a = true) => seen_flat (c := c1) (HA.below hb) GA (sp.below hb) A1 n1 a hn1 ((hra.below hb).more hb.size) ha32 hf)
  have HSB := Lib.hid (fun (w' : World) (hb : Below w.heap.size w w') (hf : h.fitsB b = true) => seen_flat (c := c2) (HB.below hb) GB (sp.below hb) A2 n2 b hn2 ((hrb.below hb).more hb.size) hb32 hf)
  have HB0 := Lib.hid ((Below.refl w.heap.size w).alloc (Nat.le_refl _) (.cells #[.int .i64 0, .slice none 0 0, .int .i64 0] 35))
  have BD := Lib.hid (Blk.new w 35 #[.int .i64 0, .slice none 0 0, .int .i64 0])
  have HX := Lib.hid (And.intro HA (And.intro HB (And.intro hra (And.intro hrb (And.intro ha32 (And.intro hb32 (And.intro hla hlb)))))))
  have hDn := fun (w' : World) (hb : Below w.heap.size w w') => @diffP_none g h ser a b w w' hb
  have HDN := Lib.hid hDn
  unfold ptr at HFA HFB HSA HSB
  unfold ptr
  clear HA HB hra hrb ha32 hb32 hDn
  cases hfa : g.fitsB a
  case false =>
    have HE := Lib.hid (show diffE g h a b = 3 by unfold diffE; rw [hfa]; rfl)
    rw [hfa] at HFA
    clear hfa hla hlb
    go_enter Tryd.func10, Tryd.ntmps10
    go_wp2_with fail
    refine (HFA.out _ HB0.out).mono ?_
    rintro e w1 ⟨rfl, hb1⟩
    have HB1 := Lib.hid (below_top HB0.out hb1)
    have BDn := BD.out.below hb1 BD.out.lt
    have d0 := BDn.cell 0
    have d1 := BDn.cell 1
    have d2 := BDn.cell 2
    have z0 := BDn.frozen 0
    have z1 := BDn.frozen 1
    have z2 := BDn.frozen 2
    have BS := BDn.setAll3 (.int .i64 0) (.slice none 0 0) (.int .i64 0)
    have HBS := Lib.hid BS
    have hlS : w.heap.size ≤ w.heap.size := Nat.le_refl _
    clear BS BDn
    go_wp2_with fail
    have f0 := HBS.out.cell 0
    have f1 := HBS.out.cell 1
    have f2 := HBS.out.cell 2
    refine bodyPost_ret (v := .tuple #[.agg #[.int .i64 0, .slice none 0 0, .int .i64 0], .int .i64 3]) (by simp [results, Tryd.results10, go_sem, f0, f1, f2]) rfl ?_
    have hfin := HDN.out _ (((HB1.out.setCell (p := ⟨w.heap.size, 0, none⟩) (Nat.le_refl _) (.int .i64 0)).setCell (p := ⟨w.heap.size, 1, none⟩) (Nat.le_refl _) (.slice none 0 0)).setCell (p := ⟨w.heap.size, 2, none⟩) (Nat.le_refl _) (.int .i64 0)) (by rw [HE.out]; decide)
    rw [HE.out] at hfin
    exact hfin
  case true =>
    rw [hfa] at HFA
    cases hfb : h.fitsB b
    case false =>
      have HE := Lib.hid (show diffE g h a b = 3 by unfold diffE; rw [hfb, if_neg (by simp)])
      rw [hfb] at HFB
      clear hfa hfb hla hlb
      go_enter Tryd.func10, Tryd.ntmps10
      go_wp2_with fail
      refine (HFA.out _ HB0.out).mono ?_
      rintro e w1 ⟨rfl, hb1⟩
      have HB1 := Lib.hid (below_top HB0.out hb1)
      have HBD1 := Lib.hid hb1
      clear hb1
      go_wp2_with fail
      refine (HFB.out _ HB1.out).mono ?_
      rintro e w2 ⟨rfl, hb2⟩
      have HB2 := Lib.hid (below_top HB1.out hb2)
      have hb12 := below_top HBD1.out hb2
      have BDn := BD.out.below hb12 BD.out.lt
      have d0 := BDn.cell 0
      have d1 := BDn.cell 1
      have d2 := BDn.cell 2
      have z0 := BDn.frozen 0
      have z1 := BDn.frozen 1
      have z2 := BDn.frozen 2
      have BS := BDn.setAll3 (.int .i64 0) (.slice none 0 0) (.int .i64 0)
      have HBS := Lib.hid BS
      have hlS : w.heap.size ≤ w.heap.size := Nat.le_refl _
      clear BS BDn
      go_wp2_with fail
      have f0 := HBS.out.cell 0
      have f1 := HBS.out.cell 1
      have f2 := HBS.out.cell 2
      refine bodyPost_ret (v := .tuple #[.agg #[.int .i64 0, .slice none 0 0, .int .i64 0], .int .i64 3]) (by simp [results, Tryd.results10, go_sem, f0, f1, f2]) rfl ?_
      have hfin := HDN.out _ (((HB2.out.setCell (p := ⟨w.heap.size, 0, none⟩) (Nat.le_refl _) (.int .i64 0)).setCell (p := ⟨w.heap.size, 1, none⟩) (Nat.le_refl _) (.slice none 0 0)).setCell (p := ⟨w.heap.size, 2, none⟩) (Nat.le_refl _) (.int .i64 0)) (by rw [HE.out]; decide)
      rw [HE.out] at hfin
      exact hfin
    case true =>
      rw [hfb] at HFB
      have HFT := Lib.hid (And.intro hfa hfb)
      replace HSA := Lib.hid (fun w' hb => HSA.out w' hb hfa)
      replace HSB := Lib.hid (fun w' hb => HSB.out w' hb hfb)
      have HEE := Lib.hid (show diffE g h a b = if a.length = b.length ∧ g.seenE a = 0 ∧ h.seenE b = 0 then 0 else 2 by unfold diffE; rw [if_pos ⟨hfa, hfb⟩])
      have hs1 := seenE_or g a
      have hs2 := seenE_or h b
      have HHG := Lib.hid (show g.seenE a = 0 → ∃ L, seenM g.nmN g.nmAt a = some L from fun e => by
        unfold HM.seenE at e
        cases hL : seenM g.nmN g.nmAt a with
        | none => rw [hL] at e; simp at e
        | some L => exact ⟨L, rfl⟩)
      clear hfa hfb
      generalize hS1 : g.seenE a = s1 at *
      generalize hS2 : h.seenE b = s2 at *
      have HS12 := Lib.hid (And.intro hS1 hS2)
      clear hS1 hS2
      go_enter Tryd.func10, Tryd.ntmps10
      go_wp2_with fail
      refine (HFA.out _ HB0.out).mono ?_
      rintro e w1 ⟨rfl, hb1⟩
      have HB1 := Lib.hid (below_top HB0.out hb1)
      have HBD1 := Lib.hid hb1
      clear hb1
      go_wp2_with fail
      refine (HFB.out _ HB1.out).mono ?_
      rintro e w2 ⟨rfl, hb2⟩
      have HB2 := Lib.hid (below_top HB1.out hb2)
      have HBD2 := Lib.hid (below_top HBD1.out hb2)
      clear hb2
      go_wp2_with fail
      refine (HSA.out _ HB2.out).mono ?_
      rintro e w3 ⟨v3, rfl, hb3⟩
      have HB3 := Lib.hid (below_top HB2.out hb3)
      have HBD3 := Lib.hid (below_top HBD2.out hb3)
      clear hb3
      rw [HS12.out.1]
      go_wp2_with fail
      refine (HSB.out _ HB3.out).mono ?_
      rintro e w4 ⟨v4, rfl, hb4⟩
      have HB4 := Lib.hid (below_top HB3.out hb4)
      have HBD4 := Lib.hid (below_top HBD3.out hb4)
      clear hb4
      rw [HS12.out.2]
      by_cases hgo : n1 = n2 ∧ s1 = 0 ∧ s2 = 0
      · obtain ⟨rfl, rfl, rfl⟩ := hgo
        obtain ⟨L, hL⟩ := HHG.out rfl
        have HLL := Lib.hid hL
        have HLS := Lib.hid (show L.length ≤ 65536 from seenM_len hL)
        have HE := Lib.hid (show diffE g h a b = 0 by rw [HEE.out, if_pos ⟨hla.trans hlb.symm, rfl, rfl⟩])
        have en : ((n1 : Int) != (n1 : Int)) = false := by simp
        have hmm := @run_makeMap Tryd.prog
        clear hla hlb hL hs1 hs2
        go_wp2_with fail
        obtain ⟨hbw, PW⟩ := pair_made HBD4.out p.g q.g
        have hwk := walk_any hbw PW (HX.out.1.below HB0.out) GA (HX.out.2.1.below HB0.out) GB (sp.below HB0.out) ser A1 A2 n1 c1 c2 a b hn1 ((HX.out.2.2.1.below HB0.out).more HB0.out.size) ((HX.out.2.2.2.1.below HB0.out).more HB0.out.size) HX.out.2.2.2.2.1 HX.out.2.2.2.2.2.1 HFT.out.1 HFT.out.2 L HLL.out HLS.out
        dsimp only at hwk
        have HWK := Lib.hid hwk
        unfold pairW at HWK
        clear hbw PW hmm hwk
        refine HWK.out.mono ?_
        rintro e w6 ⟨rfl, hb6, k3, ⟨A6, c6, k4, hrd6, hfr6, hcp6⟩, k5⟩
        dsimp only at k3 k4 k5 hfr6
        have HCP := Lib.hid hcp6
        clear hcp6
        have HFR := Lib.hid hfr6
        have HSZ4 := Lib.hid HB4.out.size
        clear hfr6
        have HB6 := Lib.hid (HB0.out.trans (hb6.mono HB0.out.size))
        have HV := Lib.hid (show diffV g h ser a b = diffD g.nmN g.nmAt h.nmAt (g.odM h ser) a b by unfold diffV; rw [if_pos HE.out])
        have BD6 := BD.out.below hb6 BD.out.lt
        have d0 := BD6.cell 0
        have d1 := BD6.cell 1
        have d2 := BD6.cell 2
        have z0 := BD6.frozen 0
        have z1 := BD6.frozen 1
        have z2 := BD6.frozen 2
        generalize diffD g.nmN g.nmAt h.nmAt (g.odM h ser) a b = d at *
        have HBS := Lib.hid (BD6.setAll3 (.int .i64 d.kind) (.slice A6 d.path.length c6) (.int .i64 d.at_))
        have HRD := Lib.hid hrd6
        clear hb6 BD6 hrd6 HWK
        go_wp2_with fail
        have f0 := HBS.out.cell 0
        have f1 := HBS.out.cell 1
        have f2 := HBS.out.cell 2
        refine bodyPost_ret (v := .tuple #[.agg #[.int .i64 d.kind, .slice A6 d.path.length c6, .int .i64 d.at_], .int .i64 0]) (by simp [results, Tryd.results10, go_sem, f0, f1, f2]) rfl ?_
        have hb7 := ((HB6.out.setCell (p := ⟨w.heap.size, 0, none⟩) (Nat.le_refl _) (.int .i64 d.kind)).setCell (p := ⟨w.heap.size, 1, none⟩) (Nat.le_refl _) (.slice A6 d.path.length c6)).setCell (p := ⟨w.heap.size, 2, none⟩) (Nat.le_refl _) (.int .i64 d.at_)
        refine ⟨hb7, A6, c6, by rw [HV.out, HE.out]; rfl, ?_, by rw [HV.out]; exact HCP.out⟩
        rw [HV.out]
        refine ⟨HRD.out.1, fun hn => ?_⟩
        obtain ⟨ad, e, hb, hc⟩ := HRD.out.2 hn
        have h1 := HFR.out ad e
        have h2 := HSZ4.out
        refine ⟨ad, e, by simp [World.setCell]; exact hb, fun j u hu => ?_⟩
        have hne : (ad.add j).block ≠ w.heap.size := by rw [block_of_add]; omega
        rw [World.cell?_setCell_other _ _ _ _ (fun e => hne (by rw [← e])), World.cell?_setCell_other _ _ _ _ (fun e => hne (by rw [← e])), World.cell?_setCell_other _ _ _ _ (fun e => hne (by rw [← e]))]
        exact hc j u hu
      · have HE := Lib.hid (show diffE g h a b = 2 by rw [HEE.out, if_neg (by rw [hla, hlb]; exact hgo)])
        by_cases hnn : n1 = n2
        · subst hnn
          have en : ((n1 : Int) != (n1 : Int)) = false := by simp
          rcases hs1 with rfl | rfl
          · rcases hs2 with rfl | rfl
            · exact absurd ⟨rfl, rfl, rfl⟩ hgo
            · clear hgo hla hlb
              have BDn := BD.out.below HBD4.out BD.out.lt
              have d0 := BDn.cell 0
              have d1 := BDn.cell 1
              have d2 := BDn.cell 2
              have z0 := BDn.frozen 0
              have z1 := BDn.frozen 1
              have z2 := BDn.frozen 2
              have BS := BDn.setAll3 (.int .i64 0) (.slice none 0 0) (.int .i64 0)
              have HBS := Lib.hid BS
              have hlS : w.heap.size ≤ w.heap.size := Nat.le_refl _
              clear BS BDn
              go_wp2_with fail
              have f0 := HBS.out.cell 0
              have f1 := HBS.out.cell 1
              have f2 := HBS.out.cell 2
              refine bodyPost_ret (v := .tuple #[.agg #[.int .i64 0, .slice none 0 0, .int .i64 0], .int .i64 2]) (by simp [results, Tryd.results10, go_sem, f0, f1, f2]) rfl ?_
              have hfin := HDN.out _ (((HB4.out.setCell (p := ⟨w.heap.size, 0, none⟩) (Nat.le_refl _) (.int .i64 0)).setCell (p := ⟨w.heap.size, 1, none⟩) (Nat.le_refl _) (.slice none 0 0)).setCell (p := ⟨w.heap.size, 2, none⟩) (Nat.le_refl _) (.int .i64 0)) (by rw [HE.out]; decide)
              rw [HE.out] at hfin
              exact hfin
          · clear hgo hla hlb hs2
            have BDn := BD.out.below HBD4.out BD.out.lt
            have d0 := BDn.cell 0
            have d1 := BDn.cell 1
            have d2 := BDn.cell 2
            have z0 := BDn.frozen 0
            have z1 := BDn.frozen 1
            have z2 := BDn.frozen 2
            have BS := BDn.setAll3 (.int .i64 0) (.slice none 0 0) (.int .i64 0)
            have HBS := Lib.hid BS
            have hlS : w.heap.size ≤ w.heap.size := Nat.le_refl _
            clear BS BDn
            go_wp2_with fail
            have f0 := HBS.out.cell 0
            have f1 := HBS.out.cell 1
            have f2 := HBS.out.cell 2
            refine bodyPost_ret (v := .tuple #[.agg #[.int .i64 0, .slice none 0 0, .int .i64 0], .int .i64 2]) (by simp [results, Tryd.results10, go_sem, f0, f1, f2]) rfl ?_
            have hfin := HDN.out _ (((HB4.out.setCell (p := ⟨w.heap.size, 0, none⟩) (Nat.le_refl _) (.int .i64 0)).setCell (p := ⟨w.heap.size, 1, none⟩) (Nat.le_refl _) (.slice none 0 0)).setCell (p := ⟨w.heap.size, 2, none⟩) (Nat.le_refl _) (.int .i64 0)) (by rw [HE.out]; decide)
            rw [HE.out] at hfin
            exact hfin
        · have en : ((n1 : Int) != (n2 : Int)) = true := by simp; omega
          clear hgo hla hlb hs1 hs2 hnn
          have BDn := BD.out.below HBD4.out BD.out.lt
          have d0 := BDn.cell 0
          have d1 := BDn.cell 1
          have d2 := BDn.cell 2
          have z0 := BDn.frozen 0
          have z1 := BDn.frozen 1
          have z2 := BDn.frozen 2
          have BS := BDn.setAll3 (.int .i64 0) (.slice none 0 0) (.int .i64 0)
          have HBS := Lib.hid BS
          have hlS : w.heap.size ≤ w.heap.size := Nat.le_refl _
          clear BS BDn
          go_wp2_with fail
          have f0 := HBS.out.cell 0
          have f1 := HBS.out.cell 1
          have f2 := HBS.out.cell 2
          refine bodyPost_ret (v := .tuple #[.agg #[.int .i64 0, .slice none 0 0, .int .i64 0], .int .i64 2]) (by simp [results, Tryd.results10, go_sem, f0, f1, f2]) rfl ?_
          have hfin := HDN.out _ (((HB4.out.setCell (p := ⟨w.heap.size, 0, none⟩) (Nat.le_refl _) (.int .i64 0)).setCell (p := ⟨w.heap.size, 1, none⟩) (Nat.le_refl _) (.slice none 0 0)).setCell (p := ⟨w.heap.size, 2, none⟩) (Nat.le_refl _) (.int .i64 0)) (by rw [HE.out]; decide)
          rw [HE.out] at hfin
          exact hfin
/-- Whether two graphs are alike. -/
def sameB (g h : HM) (ser : Bool) (a b : List Nat) : Bool := decide (diffE g h a b = 0 ∧ (diffV g h ser a b).kind = 0)
set_option maxRecDepth 100000 in
set_option maxHeartbeats 4000000 in
theorem csame_any {w : World} {p q : HP} {g h : HM} {lg lh : List Ob} (HA : HAt w p g) (GA : g.Good lg) (HB : HAt w q h) (GB : h.Good lh) (sp : Spares w) (ser : Bool) (A1 A2 : Option Addr) (n1 n2 c1 c2 : Nat) (a b : List Nat) (hn1 : n1 ≤ 9223372036854775807) (hn2 : n2 ≤ 9223372036854775807)
    (hra : Reads w w.heap.size 1 A1 n1 (u32s a)) (hrb : Reads w w.heap.size 1 A2 n2 (u32s b)) (ha32 : ∀ y ∈ a, y < 4294967296) (hb32 : ∀ y ∈ b, y < 4294967296) :
    Calls Tryd.prog 13 #[ptr p.g, ptr q.g, .bool ser, .slice A1 n1 c1, .slice A2 n2 c2] w (Told (.bool (sameB g h ser a b)) w) := by
  have HD := Lib.hid (diff_any HA GA HB GB sp ser A1 A2 n1 n2 c1 c2 a b hn1 hn2 hra hrb ha32 hb32)
  have HS := Lib.hid (show sameB g h ser a b = decide (diffE g h a b = 0 ∧ (diffV g h ser a b).kind = 0) from rfl)
  rw [HS.out]
  unfold DiffP at HD
  clear HA HB hra hrb ha32 hb32
  unfold ptr at HD ⊢
  generalize diffV g h ser a b = d at *
  generalize diffE g h a b = E at *
  have hc : (decide (E = 0 ∧ d.kind = 0)) = (decide (E = 0) && decide (d.kind = 0)) := by simp
  rw [hc]
  clear hc
  by_cases h0 : E = 0
  · subst h0
    by_cases h1 : d.kind = 0
    · have e1 : ((d.kind : Int) == 0) = true := by rw [h1]; rfl
      have HR := Lib.hid (show (decide ((0 : Nat) = 0) && decide (d.kind = 0)) = true by rw [h1]; rfl)
      rw [HR.out]
      clear h1
      go_enter Tryd.func13, Tryd.ntmps13
      go_wp2_with fail
      refine HD.out.mono ?_
      rintro e w1 ⟨hb1, A, c, rfl, -⟩
      have HB1 := Lib.hid (hb1.alloc hb1.size (.cells #[.int .i64 d.kind, .slice A d.path.length c, .int .i64 d.at_] 35))
      clear hb1
      go_wp2_with fail
      go_ret
      exact ⟨rfl, HB1.out⟩
    · have e1 : ((d.kind : Int) == 0) = false := by simp; omega
      have HR := Lib.hid (show (decide ((0 : Nat) = 0) && decide (d.kind = 0)) = false by simp [h1])
      rw [HR.out]
      clear h1
      go_enter Tryd.func13, Tryd.ntmps13
      go_wp2_with fail
      refine HD.out.mono ?_
      rintro e w1 ⟨hb1, A, c, rfl, -⟩
      have HB1 := Lib.hid (hb1.alloc hb1.size (.cells #[.int .i64 d.kind, .slice A d.path.length c, .int .i64 d.at_] 35))
      clear hb1
      go_wp2_with fail
      go_ret
      exact ⟨rfl, HB1.out⟩
  · have e1 : ((E : Int) == 0) = false := by simp; omega
    have HR := Lib.hid (show (decide (E = 0) && decide (d.kind = 0)) = false by simp [h0])
    rw [HR.out]
    clear h0
    go_enter Tryd.func13, Tryd.ntmps13
    go_wp2_with fail
    refine HD.out.mono ?_
    rintro e w1 ⟨hb1, A, c, rfl, -⟩
    have HB1 := Lib.hid (hb1.alloc hb1.size (.cells #[.int .i64 d.kind, .slice A d.path.length c, .int .i64 d.at_] 35))
    clear hb1
    go_wp2_with fail
    go_ret
    exact ⟨rfl, HB1.out⟩
end Go.Proofs.YtpajpdjjpgbklaaDoor

namespace Go.Proofs.YtpajpdjjpgbklaaDoor
open Go.RowKit

def strN (xs : List Nat) : ByteArray := strOfNums (xs.map fun x : Nat => (x : Int))
theorem strN_data (xs : List Nat) : (strN xs).data = (xs.map UInt8.ofNat).toArray := by
  unfold strN strOfNums
  simp [Function.comp_def]
theorem ofNat_inj {xs ys : List Nat} (hx : ∀ x ∈ xs, x < 256) (hy : ∀ y ∈ ys, y < 256) (h : xs.map UInt8.ofNat = ys.map UInt8.ofNat) : xs = ys := by
  induction xs generalizing ys with
  | nil => cases ys with
    | nil => rfl
    | cons y ys => simp at h
  | cons x xs ih =>
    cases ys with
    | nil => simp at h
    | cons y ys =>
      rw [List.map_cons, List.map_cons, List.cons.injEq] at h
      have h1 : x = y := by
        have e := congrArg UInt8.toNat h.1
        rw [UInt8.toNat_ofNat', UInt8.toNat_ofNat', Nat.mod_eq_of_lt (hx x (List.mem_cons_self ..)), Nat.mod_eq_of_lt (hy y (List.mem_cons_self ..))] at e
        exact e
      rw [h1, ih (fun z hz => hx z (List.mem_cons_of_mem _ hz)) (fun z hz => hy z (List.mem_cons_of_mem _ hz)) h.2]
theorem strN_inj {xs ys : List Nat} (hx : ∀ x ∈ xs, x < 256) (hy : ∀ y ∈ ys, y < 256) : strN xs = strN ys ↔ xs = ys := by
  constructor
  · intro h
    have e := congrArg ByteArray.data h
    rw [strN_data, strN_data] at e
    exact ofNat_inj hx hy (by simpa using e)
  · intro h; rw [h]
set_option maxRecDepth 100000 in
theorem conv_own {w : World} {base n : Nat} {v : Value} {xs : List Nat} (h : w.ownsRow base 5 1 v n (u8c xs)) :
    (convert 46 9 v).run Tryd.prog w = .ok (.string (strN xs)) w := by
  have hl : xs.length = n := by have := h.1; simpa [u8c] using this
  rcases Nat.eq_zero_or_pos n with h0 | h0
  · have hx : xs = [] := List.eq_nil_of_length_eq_zero (by omega)
    subst hx
    have e : strN [] = ByteArray.empty := by unfold strN strOfNums; rfl
    obtain ⟨A, c, rfl, hr⟩ := own_slice h
    rw [e]
    rcases h.2 with ⟨h1, _⟩ | ⟨g, cap, cur, h1, _⟩
    · injection h1 with h1 h2 h3
      subst h1
      exact run_convert_bytes_nil w 46 5 Tryd.underlying46 Tryd.underlying5 n c _ Tryd.underlying9
    · injection h1 with h1 h2 h3
      subst h1
      have := run_convert_bytes_arg (P := Tryd.prog) w 46 5 Tryd.underlying46 Tryd.underlying5 g 0 0 c [] rfl (fun i hi => by omega) _ Tryd.underlying9
      rw [h0]
      exact this
  · obtain ⟨g, c, rfl, hr, -, -⟩ := Row.of_any h h0
    refine run_convert_bytes_arg (P := Tryd.prog) w 46 5 Tryd.underlying46 Tryd.underlying5 g 0 n c (xs.map fun x : Nat => (x : Int)) (by simp [hl]) (fun i hi => ?_) _ Tryd.underlying9
    rw [Nat.zero_add]
    refine hr.cell ?_
    unfold u8c
    rw [List.getElem?_map, List.getElem?_eq_getElem (by omega), List.getD_eq_getElem?_getD, List.getElem?_map, List.getElem?_eq_getElem (by omega)]
    rfl
end Go.Proofs.YtpajpdjjpgbklaaDoor

namespace Go.Proofs.YtpajpdjjpgbklaaDoor
open Go.RowKit Go.Maps Go.Sort
attribute [local go_sem] Oper.semAt_some

/-- Nothing but block b is changed. -/
structure OnlyB (b : Nat) (w w' : World) : Prop where
  os : w'.os = w.os
  tape : w'.tape = w.tape
  output : w'.output = w.output
  size : w'.heap.size = w.heap.size
  block : ∀ k, k ≠ b → w'.heap[k]? = w.heap[k]?
theorem OnlyB.refl (b : Nat) (w : World) : OnlyB b w w := ⟨rfl, rfl, rfl, rfl, fun _ _ => rfl⟩
theorem OnlyB.set (b i : Nat) (w : World) (v : Value) : OnlyB b w (w.setCell ⟨b, i, none⟩ v) := ⟨rfl, rfl, rfl, by simp [World.setCell], fun k hk => Below.heap_setCell w ⟨b, i, none⟩ v k hk⟩
theorem OnlyB.trans {b : Nat} {u v w : World} (h : OnlyB b u v) (k : OnlyB b v w) : OnlyB b u w := ⟨k.os.trans h.os, k.tape.trans h.tape, k.output.trans h.output, k.size.trans h.size, fun i hi => (k.block i hi).trans (h.block i hi)⟩
theorem OnlyB.draw {b : Nat} {u v : World} (h : OnlyB b u.drew v) : OnlyB b u v := ⟨h.os, h.tape, h.output, h.size, h.block⟩
theorem OnlyB.undraw {b : Nat} {u v : World} (h : OnlyB b u v) : OnlyB b u v.drew := ⟨h.os, h.tape, h.output, h.size, h.block⟩
def noteFn (bX : Nat) : Value := .func (.func 60) #[] #[.pointer (some ⟨bX, 0, none⟩)]
def NoteP (bX : Nat) (y : Gc) (n : Nat) (w : World) (e : Ending) (w' : World) : Prop := e = .returned (.tuple #[]) ∧ Blk w' bX 72 (y.cells n) ∧ OnlyB bX w w'
set_option maxRecDepth 100000 in
set_option maxHeartbeats 4000000 in
theorem note_any {w : World} {bX n : Nat} {x : Gc} (B : Blk w bX 72 (x.cells n)) (o : Nat) (ho : o < 4294967296) (cls : Bool) (h1 : x.smalls < 4611686018427387904) (h2 : x.edges < 4611686018427387904) :
    Calls Tryd.prog 60 #[.int .u32 o, .bool cls, .pointer (some ⟨bX, 0, none⟩)] w (NoteP bX (noteM x o cls) n w) := by
  have HK := Lib.hid (ckind_any o ho w)
  obtain ⟨xw, xs, xe, xd⟩ := x
  dsimp only at h1 h2
  have HB := Lib.hid B
  have y2 := B.cell 2
  have q2 := B.frozen 2
  have y3 := B.cell 3
  have q3 := B.frozen 3
  unfold Gc.cells at y2 y3
  dsimp only at y2 y3
  clear B
  unfold NoteP
  by_cases hk1 : kindM o = 1
  · rw [hk1] at HK
    cases cls
    · have HF := Lib.hid (show noteM ⟨xw, xs, xe, xd⟩ o false = ⟨xw, xs + 1, xe, xd⟩ by unfold noteM; rw [if_pos hk1, if_neg (by decide)])
      clear hk1
      go_enter Tryd.func60, Tryd.ntmps60
      go_wp2_with fail
      refine HK.out.mono ?_
      rintro e w3 ⟨rfl, rfl⟩
      go_wp2_with fail
      refine bodyPost_end (v := .tuple #[]) (by simp [results, Tryd.results60, go_sem]) rfl ?_
      exact ⟨rfl, by rw [HF.out]; exact HB.out.set_ 2 _, OnlyB.set _ _ _ _⟩
    · have HF := Lib.hid (show noteM ⟨xw, xs, xe, xd⟩ o true = ⟨xw, xs, xe, xd⟩ by unfold noteM; rw [if_pos hk1, if_pos rfl])
      clear hk1
      go_enter Tryd.func60, Tryd.ntmps60
      go_wp2_with fail
      refine HK.out.mono ?_
      rintro e w3 ⟨rfl, rfl⟩
      go_wp2_with fail
      refine bodyPost_end (v := .tuple #[]) (by simp [results, Tryd.results60, go_sem]) rfl ?_
      exact ⟨rfl, by rw [HF.out]; exact HB.out, OnlyB.refl _ _⟩
  · by_cases hk2 : kindM o = 2
    · have HF := Lib.hid (show noteM ⟨xw, xs, xe, xd⟩ o cls = ⟨xw, xs, xe + 1, xd⟩ by unfold noteM; rw [if_neg hk1, if_pos hk2])
      rw [hk2] at HK
      clear hk1 hk2
      go_enter Tryd.func60, Tryd.ntmps60
      go_wp2_with fail
      refine HK.out.mono ?_
      rintro e w3 ⟨rfl, rfl⟩
      go_wp2_with fail
      refine bodyPost_end (v := .tuple #[]) (by simp [results, Tryd.results60, go_sem]) rfl ?_
      exact ⟨rfl, by rw [HF.out]; exact HB.out.set_ 3 _, OnlyB.set _ _ _ _⟩
    · have HF := Lib.hid (show noteM ⟨xw, xs, xe, xd⟩ o cls = ⟨xw, xs, xe, xd⟩ by unfold noteM; rw [if_neg hk1, if_neg hk2])
      have e1 : ((kindM o : Int) == 1) = false := by simp; omega
      have e2 : ((kindM o : Int) == 2) = false := by simp; omega
      generalize kindM o = kd at *
      clear hk1 hk2
      go_enter Tryd.func60, Tryd.ntmps60
      go_wp2_with fail
      refine HK.out.mono ?_
      rintro e w3 ⟨rfl, rfl⟩
      go_wp2_with fail
      refine bodyPost_end (v := .tuple #[]) (by simp [results, Tryd.results60, go_sem]) rfl ?_
      exact ⟨rfl, by rw [HF.out]; exact HB.out, OnlyB.refl _ _⟩
/-- Count's own: the graph, the counts' box, the note's box, the answer's place. -/
structure CtSt (W0 : World) (gG mB bX bF : Nat) (hv vm vd : Value) (l : List Nd) (x : Gc) (n : Nat) (w : World) : Prop where
  base : Below W0.heap.size W0 w
  graph : GAt w W0.heap.size gG mB hv vm vd l
  bx : Blk w bX 72 (x.cells n)
  bf : Blk w bF 131 #[noteFn bX]
  res : Blk w W0.heap.size 72 #[.int .i64 0, .int .i64 0, .int .i64 0, .int .i64 0, .int .i64 0]
  hx : W0.heap.size < bX
section
variable {W0 w w' : World} {gG mB bX bF n n' : Nat} {hv vm vd : Value} {l : List Nd} {x y : Gc}
theorem CtSt.below (C : CtSt W0 gG mB bX bF hv vm vd l x n w) (hb : Below w.heap.size w w') : CtSt W0 gG mB bX bF hv vm vd l x n w' :=
  ⟨below_top C.base hb, C.graph.below hb, C.bx.below hb C.bx.lt, C.bf.below hb C.bf.lt, C.res.below hb C.res.lt, C.hx⟩
theorem blk_ne2 {g g' : Nat} {t t' : TypeId} {cs cs' : Array Value} (hb : Blk w g t cs) (hb' : Blk w g' t' cs') (hne : t ≠ t') : g ≠ g' := by
  rintro rfl
  unfold Blk at hb hb'
  rw [hb] at hb'
  injection hb' with e
  injection e with _ e
  exact hne e
theorem CtSt.num_ne (C : CtSt W0 gG mB bX bF hv vm vd l x n w) : mB ≠ bX := by
  rintro rfl
  obtain ⟨D, _, ⟨es, clock, hb, r⟩, _⟩ := C.graph.num
  have := C.bx
  unfold Blk at this
  rw [this] at hb
  injection hb with hb
  cases hb
theorem CtSt.only (C : CtSt W0 gG mB bX bF hv vm vd l x n w) (s : OnlyB bX w w') (b : Blk w' bX 72 (y.cells n')) : CtSt W0 gG mB bX bF hv vm vd l y n' w' := by
  have ho : ∀ {e m xs} {v : Value}, w.ownsRow W0.heap.size e 1 v m xs → e ≠ 72 → ∀ k, v.ownBlock = some k → w'.heap[k]? = w.heap[k]? := fun h he k hk => s.block k (fun e => own_ne_blk h C.bx he (by rw [← e]; exact hk))
  refine ⟨⟨s.os.trans C.base.os, s.tape.trans C.base.tape, s.output.trans C.base.output, by rw [s.size]; exact C.base.size, fun k hk => (s.block k (by have := C.hx; omega)).trans (C.base.block k hk)⟩, ?_, b,
    C.bf.same (s.block _ (blk_ne2 C.bf C.bx (by decide))), C.res.same (s.block _ (by have := C.hx; omega)), C.hx⟩
  exact ⟨C.graph.box.same (s.block _ (blk_ne2 C.graph.box C.bx (by decide))), own_same C.graph.met (ho C.graph.met (by decide)), own_same C.graph.deep (ho C.graph.deep (by decide)), C.graph.num.same (s.block _ C.num_ne), C.graph.hg, C.graph.hm, by rw [s.size]; exact C.graph.hB⟩
theorem CtSt.own' {B : Nat} {row : Option Nat} (C : CtSt W0 gG mB bX bF hv vm vd l x n w) (hm : mB < B) (hB : W0.heap.size ≤ B) (hg : w.grownBy w' row) (hr : ∀ r, row = some r → B ≤ r ∧ ∃ o : Obj, w.heap[r]? = some o ∧ o.isCells = false) : CtSt W0 gG mB bX bF hv vm vd l x n w' := by
  have hc : ∀ g cs t, Blk w g t cs → w'.heap[g]? = w.heap[g]? := fun g cs t b => hg.block g b.lt (fun e => by
    obtain ⟨_, o, ho, hc⟩ := hr g e.symm
    unfold Blk at b; rw [b] at ho; injection ho with ho; subst ho; cases hc)
  have ho : ∀ {e n xs} {v : Value}, w.ownsRow W0.heap.size e 1 v n xs → ∀ k, v.ownBlock = some k → w'.heap[k]? = w.heap[k]? := fun h k hk => hg.block k (h.lt k hk).2 (fun e => by
    obtain ⟨_, o, ho, hc⟩ := hr k e.symm
    obtain ⟨o', ho', hc'⟩ := own_cells h hk
    rw [ho'] at ho; injection ho with ho; subst ho; rw [hc'] at hc; cases hc)
  refine ⟨⟨hg.os.trans C.base.os, hg.tape.trans C.base.tape, hg.output.trans C.base.output, Nat.le_trans C.base.size hg.size, fun k hk => (hg.block k (Nat.lt_of_lt_of_le hk C.base.size) (fun e => by have := (hr k e.symm).1; omega)).trans (C.base.block k hk)⟩, ?_, C.bx.same (hc _ _ _ C.bx), C.bf.same (hc _ _ _ C.bf), C.res.same (hc _ _ _ C.res), C.hx⟩
  exact ⟨C.graph.box.same (hc _ _ _ C.graph.box), own_same C.graph.met (ho C.graph.met), own_same C.graph.deep (ho C.graph.deep), C.graph.num.same (hg.block mB C.graph.num.lt (fun e => by have := (hr mB e.symm).1; omega)), C.graph.hg, C.graph.hm, Nat.le_trans C.graph.hB hg.size⟩
theorem OnlyB.marks {B : Nat} {ds : List Deferred} {cs : Array Value} (s : OnlyB bX w w') (b : Blk w bX 72 cs) (M : Marks B ds w) : Marks B ds w' :=
  M.same fun D _ h => (s.block D (fun e => by subst e; unfold Blk at b; rw [b] at h; injection h with h; cases h)).trans h
theorem OnlyB.keeps {cs : Array Value} (s : OnlyB bX w w') (b : Blk w bX 72 cs) (B : Nat) : KeepsFrom B w w' :=
  ⟨by rw [s.size]; exact Nat.le_refl _, fun k o _ ho hc => (s.block k (fun e => by subst e; unfold Blk at b; rw [b] at ho; injection ho with ho; subst ho; cases hc)).trans ho⟩
theorem OnlyB.kpG {M Bh Bo : Nat} {cs ch co : Array Value} (s : OnlyB bX w w') (b : Blk w bX 72 cs) (hM : M ≤ bX) (bh : Blk w Bh 27 ch) (bo : Blk w Bo 50 co) : KpG M Bh Bo w w' :=
  ⟨s.os, s.tape, s.output, by rw [s.size]; exact Nat.le_refl _, fun k hk => s.block k (by omega), s.block _ (blk_ne2 bh b (by decide)), s.block _ (blk_ne2 bo b (by decide)), fun g cs hb => hb.same (s.block _ (blk_ne2 hb b (by decide)))⟩
theorem OnlyB.blk {g : Nat} {t : TypeId} {cs cs' : Array Value} (s : OnlyB bX w w') (b : Blk w bX 72 cs) (hb : Blk w g t cs') (hne : t ≠ 72) : Blk w' g t cs' := hb.same (s.block _ (blk_ne2 hb b hne))
theorem own_less {B B' s m : Nat} {e : TypeId} {v : Value} {xs : List Value} (h : w.ownsRow B e s v m xs) (hB : B' ≤ B) : w.ownsRow B' e s v m xs := by
  refine ⟨h.1, ?_⟩
  rcases h.2 with h1 | ⟨g, cap, cur, h1, h2, h3⟩
  · exact .inl h1
  · exact .inr ⟨g, cap, cur, h1, by omega, h3⟩
end
end Go.Proofs.YtpajpdjjpgbklaaDoor
