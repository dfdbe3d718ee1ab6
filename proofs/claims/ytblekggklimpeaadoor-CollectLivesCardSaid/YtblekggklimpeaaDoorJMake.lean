/- Make of the program's heap. -/
import Derived.Test.YtblekggklimpeaaDoorJAlloc
import Derived.Test.YtblekggklimpeaaDoorJCopy
set_option linter.unusedVariables false
namespace Go.Proofs.YtblekggklimpeaaDoor
open Go.RowKit

def makeX (c : Nat) (bs : List Nat) : Hd := ⟨(bs.length + 3) / 4, 2, 4 * ((bs.length + 3) / 4) - bs.length, c, 0⟩
def HM.makeE (h : HM) (c : Nat) (bs : List Nat) : Nat := if 262140 < bs.length then 2 else h.allocE (makeX c bs)
def HM.makeH (h : HM) (c : Nat) (bs : List Nat) : HM := if h.makeE c bs = 0 then h.pushH (makeX c bs) (packM bs) else h
def HM.makeV (h : HM) (c : Nat) (bs : List Nat) : Value := .tuple #[.int .u32 ((if h.makeE c bs = 0 then 2 * h.words.length else 0 : Nat) : Int), .int .i64 (h.makeE c bs)]

theorem info_u32_size : (Tryd.prog.info? 24).map (·.size) = some 1 := by kernel_rfl
theorem one_u32s' (l : List Nat) : ∀ v ∈ u32s l, v.oneCell' = true := one_u32s l
theorem HM.allocE_le (h : HM) (x : Hd) : h.allocE x ≤ 4 := by unfold HM.allocE; split <;> (try split) <;> omega

/-- The words' row was overwritten in place. -/
theorem HAt.rewords {w w1 : World} {p : HP} {h : HM} (H : HAt w p h) {ws : List Nat} (hr : Row w1 p.gw 24 p.cw (u32s ws)) (hg : w.grownBy w1 (some p.gw)) (hl : ws.length = h.words.length) :
    HAt w1 p { h with words := ws } ∧ Step p p w w1 := by
  obtain ⟨hb, hw, hs, hrt⟩ := H
  have n1 : p.g ≠ p.gw := fun e => Row.ne_blk hw hb (by decide) e.symm
  have n2 : p.gs ≠ p.gw := hs.ne_ hw (by decide)
  have n3 : p.gr ≠ p.gw := hrt.ne_ hw (by decide)
  have hb1 := hb.same (hg.block p.g hb.lt (by simpa using n1))
  have hs1 := hs.same (hg.block p.gs hs.lt (by simpa using n2))
  have hr1 := hrt.same (hg.block p.gr hrt.lt (by simpa using n3))
  refine ⟨⟨by simpa only [hl] using hb1, hr, hs1, hr1⟩, hg.os, hg.tape, hg.output, hg.size, fun k hk hn => hg.block k hk (by
    intro e; injection e with e; exact hn (.inr (.inl e))), rfl, fun k hk => .inl hk⟩

/-- The fields of a new object, overwritten, are as if pushed so. -/
theorem HM.pushH_re (h : HM) (x : Hd) (ys zs : List Nat) (hz : zs.length = ys.length) :
    { h.pushH x ys with words := (h.pushH x ys).words.take (h.words.length + 3) ++ zs ++ (h.pushH x ys).words.drop (h.words.length + 3 + ys.length) } = h.pushH x zs := by
  unfold HM.pushH
  dsimp only
  congr 1
  rw [List.take_append_of_le_length (by simp), List.take_of_length_le (by simp), List.drop_of_length_le (by simp; omega), List.append_nil]

/-- The end of Make: the copy has laid the fields. -/
theorem make_end {w w2 w3 : World} {p p1 : HP} {h : HM} {c : Nat} {bs : List Nat} {F L : Nat} (hL : h.words.length = L) (hpl : (packM bs).length = F)
    (H1 : HAt w2 p1 (h.pushH (makeX c bs) (List.replicate F 0))) (s2 : Step p p1 w w2)
    (hr : Row w3 p1.gw 24 p1.cw (List.take (L + 3) (u32s (h.pushH (makeX c bs) (List.replicate F 0)).words) ++ u32s (packM bs) ++ List.drop (L + 3 + F) (u32s (h.pushH (makeX c bs) (List.replicate F 0)).words)))
    (hg : w2.grownBy w3 (some p1.gw)) : HAt w3 p1 (h.pushH (makeX c bs) (packM bs)) ∧ Step p p1 w w3 := by
  subst hL
  have e : List.take (h.words.length + 3) (u32s (h.pushH (makeX c bs) (List.replicate F 0)).words) ++ u32s (packM bs) ++ List.drop (h.words.length + 3 + F) (u32s (h.pushH (makeX c bs) (List.replicate F 0)).words)
      = u32s ((h.pushH (makeX c bs) (List.replicate F 0)).words.take (h.words.length + 3) ++ packM bs ++ (h.pushH (makeX c bs) (List.replicate F 0)).words.drop (h.words.length + 3 + F)) := by
    unfold u32s
    simp only [List.map_append, List.map_take, List.map_drop]
  rw [e] at hr
  obtain ⟨H3, s3⟩ := H1.rewords hr hg (by simp [HM.pushH, hpl]; omega)
  have e2 := h.pushH_re (makeX c bs) (List.replicate F 0) (packM bs) (by simp [hpl])
  simp only [List.length_replicate] at e2
  rw [e2] at H3
  exact ⟨H3, s2.trans s3⟩

end Go.Proofs.YtblekggklimpeaaDoor
