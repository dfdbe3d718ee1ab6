/- CollectAgain, walked: it answers true. -/
/- CollectWeak, walked: it answers true. -/
/- The document's Is. -/
import Derived.Test.YtblekggklimpeaaGreatDoorJKRNames
import Derived.Test.YtblekggklimpeaaGreatDoorJLive
set_option linter.unusedVariables false
set_option linter.unusedSimpArgs false
set_option linter.unusedSectionVars false
namespace Go.Proofs.YtblekggklimpeaaGreatDoor
open Go.RowKit Go.Sort
attribute [local go_sem] Oper.semAt_some
/-- A heap beside another one that is worked on. -/
theorem Live.beside {W w w' : World} {p q q' : HP} {g : Nat} {h : HM} (L : Live W w p g h) (s : Step q q' w w') (hd : ∀ j, p.has j → ¬ q.has j) (hq : ∀ j, q.has j → W.heap.size ≤ j) : Live W w' p g h :=
  ⟨L.at_.same (fun j hj => s.block j (L.at_.lt hj) (hd j hj)), L.hg, L.good, L.env, L.new, L.below.trans ⟨s.os, s.tape, s.output, s.size, fun j hj => s.block j (by have := L.below.size; omega) (fun e => by have := hq j e; omega)⟩⟩
end Go.Proofs.YtblekggklimpeaaGreatDoor

namespace Go.Proofs.YtblekggklimpeaaGreatDoor
open Go.RowKit Go.Sort
attribute [local go_sem] Oper.semAt_some
theorem Live.rebase {W w1 w : World} {p : HP} {g : Nat} {h : HM} (L : Live w1 w p g h) (hb : Below W.heap.size W w1) (E : Env W) : Live W w p g h :=
  ⟨L.at_, L.hg, L.good, E, fun j hj => Nat.le_trans hb.size (L.new j hj), hb.trans (L.below.mono hb.size)⟩
theorem fld_to {pl : List (Nat × Nat)} {void x : Nat} : fldM pl void x = if kindM x = 2 then toK pl void x else x := by
  unfold fldM toK whereM
  by_cases hk : kindM x = 2
  · by_cases hm : x ∈ pl.map (·.1)
    · rw [if_neg (fun e => e.2 hm), if_pos hk, if_pos hk, if_pos hm]
    · rw [if_pos ⟨hk, hm⟩, if_pos hk, if_neg hm]
  · rw [if_neg (fun e => hk e.1), if_neg hk, if_neg hk]
theorem isB_obj {h : HM} {l : List Ob} (G : h.Good l) {j : Nat} (hj : j < l.length) : h.isB (2 * posOf (l.take j)) = true := (G.laid.isB_iff _).2 ⟨l.take j, l[j], l.drop (j + 1), split_at l j hj, rfl⟩
theorem get_obj {W w : World} {p : HP} {g : Nat} {h : HM} {l : List Ob} (L : Live W w p g h) (G : h.Good l) {j : Nat} (hj : j < l.length) (hp : (l[j]).x.ptrB = true) {i : Nat} (hi : i < (l[j]).fs.length) :
    Calls Tryz.prog 62 #[.pointer (some ⟨g, 0, none⟩), .int .u32 (2 * posOf (l.take j) : Nat), .int .i64 i] w (Told (.tuple #[.int .u32 ((l[j]).fs.getD i 0 : Nat), .int .i64 0]) w) := by
  have L' := G.laid
  rw [split_at l j hj] at L'
  have hf : h.fields (2 * posOf (l.take j)) = (l[j]).fs := L'.fields_at
  have hh : h.hd (2 * posOf (l.take j) / 2) = (l[j]).x := by rw [half_pos]; exact L'.hd_at
  have := kget_any L.at_ G L.envw.spares (isB_obj G hj) (by rw [hh]; exact hp) i (by rw [hf]; exact hi)
  rw [hf, L.hg] at this
  exact this
theorem head_obj {W w : World} {p : HP} {g : Nat} {h : HM} {l : List Ob} (L : Live W w p g h) (G : h.Good l) {j : Nat} (hj : j < l.length) :
    Calls Tryz.prog 77 #[.pointer (some ⟨g, 0, none⟩), .int .u32 (2 * posOf (l.take j) : Nat)] w (Told (.tuple #[(l[j]).x.val, .int .i64 0]) w) := by
  have hi := isB_obj G hj
  have L' := G.laid
  rw [split_at l j hj] at L'
  have hh : h.hd (2 * posOf (l.take j) / 2) = (l[j]).x := by rw [half_pos]; exact L'.hd_at
  have := L.header (2 * posOf (l.take j)) (isB_u32 G hi)
  have e1 : h.hdO (2 * posOf (l.take j)) = (l[j]).x := by unfold HM.hdO; rw [if_pos hi]; exact hh
  have e2 : h.isE (2 * posOf (l.take j)) = 0 := by unfold HM.isE; simp [hi]
  rw [e1, e2] at this
  exact this
end Go.Proofs.YtblekggklimpeaaGreatDoor

namespace Go.Proofs.YtblekggklimpeaaGreatDoor
open Go.RowKit Go.Sort
attribute [local go_sem] Oper.semAt_some
theorem isB_kindK {h : HM} {l : List Ob} (G : h.Good l) {o : Nat} (hi : h.isB o = true) : kindM o = 2 := isB_kind hi
section
variable {w : World} {h : HM} {l : List Ob} {A A' : Option Addr} {n c n' c' : Nat}
set_option maxRecDepth 100000 in
set_option maxHeartbeats 4000000 in
theorem ris_any (G : h.Good l) (hr : Reads w w.heap.size 1 A n (u32s h.words)) {o : Nat} (ho : o < 4294967296) :
    Calls Tryz.prog 28 #[StV A n c A' n' c', .int .u32 o] w (Told (.bool (h.isB o)) w) := by
  have hX := Blk.new w 32 #[.slice A n c, .slice A' n' c']
  have hB := (Below.refl w.heap.size w).alloc (Nat.le_refl _) (.cells #[.slice A n c, .slice A' n' c'] 32)
  have HOB := Lib.hid (robjects_any (A' := A') (n' := n') (c' := c') (c := c) G ((hr.below hB).more hB.size))
  have HKD := Lib.hid (fun w' => rkind_any o ho w')
  have x0 := hX.cell 0
  have x1 := hX.cell 1
  have HB := Lib.hid hB
  have hl2 : l.length ≤ 1048576 := by have h1 := oopsL_le G; rw [oopsL_len] at h1; exact h1
  have HG := Lib.hid G
  clear hX hB hr G
  unfold StV at HOB ⊢
  by_cases hk : kindM o = 2
  · have HK2 := Lib.hid hk
    rw [hk] at HKD
    have hq : ((o : Int)).tdiv 2 = ((o / 2 : Nat) : Int) := by rw [Int.tdiv_eq_ediv_of_nonneg (by omega)]; omega
    have hq2 : ((o : Int)) / 2 = ((o / 2 : Nat) : Int) := by omega
    have hwi : IntKind.i64.wrap ((o / 2 : Nat) : Int) = ((o / 2 : Nat) : Int) := IntWalk.i64_in _ (by omega)
    have HO2 := Lib.hid (kind2 hk).1
    have HQQ := Lib.hid (And.intro hq (And.intro hq2 hwi))
    clear hk hq hq2 hwi
    generalize o / 2 = i at *
    go_enter Tryz.func28, Tryz.ntmps28
    go_wp2_with fail
    generalize w.alloc (.cells #[.slice A n c, .slice A' n' c'] 32) = w1 at *
    refine (HKD.out _).mono ?_
    rintro e w1' ⟨rfl, rfl⟩
    go_wp2_with fail
    refine HOB.out.mono ?_
    rintro e w2 ⟨v2, rfl, hown, hb2⟩
    have HOW := Lib.hid hown
    have HB2 := Lib.hid (below_top HB.out hb2)
    obtain ⟨Ai, ci, hvi⟩ := own_val hown
    subst hvi
    rw [idxL_len] at *
    clear hown hb2 HOB x0 x1 HKD
    go_wp2_with fail
    go_loopw [13] (fun jv wr => ∃ j : Nat, jv = .int .i64 j ∧ j ≤ l.length ∧ (∀ q, q < j → posOf (l.take q) ≠ i) ∧ wr = w2) (fun jv _ => l.length - (intOf jv).toNat)
    case atStart => exact ⟨0, rfl, Nat.zero_le _, fun q hq => absurd hq (Nat.not_lt_zero _), rfl⟩
    case round =>
      obtain ⟨j, rfl, hj, hno, hww⟩ := hrel
      have HNO := Lib.hid hno
      have HWW := Lib.hid hww
      clear hno hww
      by_cases hlt : j < l.length
      · obtain ⟨gv, cv, hvv, hrv, _, hgv⟩ := Row.of_any HOW.out (by omega)
        have hcl := hrv.cell (ints_atK (idxL_get hlt))
        rw [← HWW.out] at hcl
        have HLT := Lib.hid hlt
        have HYES := Lib.hid (fun (e : posOf (l.take j) = i) => show h.isB o = true from by
          have := (HG.out.laid.isB_iff (2 * posOf (l.take j))).2 ⟨l.take j, l[j], l.drop (j + 1), split_at l j hlt, rfl⟩
          rw [e, ← HO2.out] at this
          exact this)
        have HNX := Lib.hid (fun (e : posOf (l.take j) ≠ i) => show ∀ q, q < j + 1 → posOf (l.take q) ≠ i from fun q hq => by
          by_cases h : q = j
          · rw [h]; exact e
          · exact HNO.out q (by omega))
        cases hvv
        clear hrv
        generalize posOf (l.take j) = x at *
        obtain ⟨hq, hq2, hwi⟩ := HQQ.out
        by_cases hx : x = i
        · have hy := HYES.out hx
          rw [hy]
          subst hx
          clear hy
          go_wp2_with fail
          go_ret
          exact ⟨rfl, by rw [HWW.out]; exact HB2.out⟩
        · have hne : ((x : Int) == (i : Int)) = false := by simp; omega
          have HN := Lib.hid (HNX.out hx)
          clear hx
          go_wp2_with fail
          go_roundw
          case rel => exact ⟨j + 1, by go_num, HLT.out, HN.out, HWW.out⟩
          case measure => have := HLT.out; simp [intOf]; omega
      · obtain rfl : j = l.length := by omega
        have hf : h.isB o = false := by
          cases hi : h.isB o
          · rfl
          · obtain ⟨k, hk, he⟩ := isB_k HG.out hi
            have h1 := HNO.out k hk
            have h2 := HO2.out
            omega
        have HFF := Lib.hid hf
        clear hf hlt hj
        go_wp2_with fail
        go_ret
        exact ⟨by rw [HFF.out]; rfl, by rw [HWW.out]; exact HB2.out⟩
  · have hf : h.isB o = false := by
      cases hi : h.isB o
      · rfl
      · exact absurd (isB_kind hi) hk
    rw [hf]
    have e2 : ((kindM o : Int) != 2) = true := by simp; omega
    clear hk hf
    generalize kindM o = k at *
    go_enter Tryz.func28, Tryz.ntmps28
    go_wp2_with fail
    generalize w.alloc (.cells #[.slice A n c, .slice A' n' c'] 32) = w1 at *
    refine (HKD.out _).mono ?_
    rintro e w1' ⟨rfl, rfl⟩
    go_wp2_with fail
    go_ret
    exact ⟨rfl, HB.out⟩
end
end Go.Proofs.YtblekggklimpeaaGreatDoor
