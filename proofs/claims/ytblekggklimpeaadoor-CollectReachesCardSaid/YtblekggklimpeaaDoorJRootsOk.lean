/- sound's function literal, slices.IndexFunc and ContainsFunc with it: is there a root that is no value? -/
import Derived.Test.YtblekggklimpeaaDoorJOop
import Derived.Test.YtblekggklimpeaaDoorJLook
set_option linter.unusedVariables false
namespace Go.Proofs.YtblekggklimpeaaDoor
open Go.RowKit

/-- The literal's value: it holds the box of h. -/
def badFn (gb : Nat) : Value := .func (.func 107) #[] #[.pointer (some ⟨gb, 0, none⟩)]

theorem bad_any {w : World} {p : HP} {h : HM} (H : HAt w p h) (f : h.Fit) (gb : Nat) (hb : w.cell? ⟨gb, 0, none⟩ = some (.pointer (some ⟨p.g, 0, none⟩))) (o : Nat) (ho : o < 4294967296) :
    Calls Tryd.prog 107 #[.int .u32 o, .pointer (some ⟨gb, 0, none⟩)] w fun e w' => e = .returned (.bool (!h.valB o)) ∧ w = w' := by
  have HV := Lib.hid (value_any H f o ho)
  clear H f
  unfold ptr at HV
  generalize h.valB o = b at *
  go_enter Tryd.func107, Tryd.ntmps107
  go_wp2_with fail
  refine HV.out.mono ?_
  rintro e w' ⟨rfl, rfl⟩
  go_wp2_with fail
  go_ret
  exact ⟨rfl, rfl⟩

def IdxFP (h : HM) (xs : List Nat) (w : World) (e : Ending) (w' : World) : Prop := ∃ j : Int, e = .returned (.int .i64 j) ∧ (decide (0 ≤ j) = xs.any fun o => !h.valB o) ∧ -1 ≤ j ∧ j ≤ 9223372036854775807 ∧ w = w'
theorem any_take {q : Nat → Bool} {xs : List Nat} {k : Nat} (hk : k < xs.length) (h1 : (xs.take k).any q = false) (h2 : q (xs.getD k 0) = false) : (xs.take (k + 1)).any q = false := by
  rw [List.take_add_one, List.getElem?_eq_getElem hk, List.any_append, h1]
  rw [List.getD_eq_getElem?_getD, List.getElem?_eq_getElem hk] at h2
  simpa using h2
theorem any_at {q : Nat → Bool} {xs : List Nat} {k : Nat} (hk : k < xs.length) (h2 : q (xs.getD k 0) = true) : xs.any q = true := by
  rw [List.any_eq_true]
  rw [List.getD_eq_getElem?_getD, List.getElem?_eq_getElem hk] at h2
  exact ⟨xs[k], List.getElem_mem hk, h2⟩

set_option maxHeartbeats 1000000 in
theorem indexFunc_any {w : World} {p : HP} {h : HM} (H : HAt w p h) (f : h.Fit) (gb : Nat) (hb : w.cell? ⟨gb, 0, none⟩ = some (.pointer (some ⟨p.g, 0, none⟩))) (A : Option Addr) (n c B : Nat) (xs : List Nat) (hn : n ≤ 9223372036854775807)
    (hr : Reads w B 1 A n (u32s xs)) (h32 : ∀ x ∈ xs, x < 4294967296) :
    Calls Tryd.prog 112 #[.slice A n c, badFn gb] w (IdxFP h xs w) := by
  have hl : xs.length = n := by have := hr.1; rw [u32s_len] at this; omega
  have HL := Lib.hid hl; have HR := Lib.hid hr; have HX := Lib.hid h32; have HH := Lib.hid H; have HF := Lib.hid f; have HB := Lib.hid hb
  clear hl hr h32 H f hb
  unfold badFn
  go_enter Tryd.func112, Tryd.ntmps112
  go_wp2_with fail
  go_loop [8] (fun i => ∃ k : Nat, k ≤ n ∧ i = .int .i64 k ∧ (xs.take k).any (fun o => !h.valB o) = false) (fun i => n - (intOf i).toNat)
  case atStart => exact ⟨0, by omega, rfl, by simp⟩
  case round =>
    obtain ⟨k, hk, rfl, hno⟩ := hrel
    have HNO := Lib.hid hno; clear hno
    by_cases hlt : k < n
    · obtain ⟨ad, u0, rfl, _, hx, hcell⟩ := HR.out.at_ hlt
      rw [u32s_get (by rw [HL.out]; exact hlt)] at hx
      injection hx with hx
      subst hx
      have ho : xs.getD k 0 < 4294967296 := by
        rw [List.getD_eq_getElem?_getD, List.getElem?_eq_getElem (by rw [HL.out]; exact hlt)]
        exact HX.out _ (List.getElem_mem _)
      have HC := Lib.hid (bad_any HH.out HF.out gb HB.out (xs.getD k 0) ho)
      cases hv : h.valB (xs.getD k 0)
      · have HA := Lib.hid (any_at (q := fun o => !h.valB o) (by rw [HL.out]; exact hlt) (by simp only [hv]; rfl))
        rw [hv] at HC
        clear hv
        generalize xs.getD k 0 = y at *
        go_wp2_with fail
        refine HC.out.mono ?_
        rintro e w' ⟨rfl, rfl⟩
        go_wp2_with fail
        go_ret
        exact ⟨k, rfl, by rw [HA.out]; simp, by omega, by omega, rfl⟩
      · have HA := Lib.hid (any_take (q := fun o => !h.valB o) (by rw [HL.out]; exact hlt) HNO.out (by simp only [hv]; rfl))
        rw [hv] at HC
        clear hv
        generalize xs.getD k 0 = y at *
        go_wp2_with fail
        refine HC.out.mono ?_
        rintro e w' ⟨rfl, rfl⟩
        go_wp2_with fail
        go_round
        case rel => exact ⟨k + 1, by omega, by go_num, HA.out⟩
        case measure => simp [intOf]; omega
    · obtain rfl : k = n := by omega
      have hall := HNO.out
      rw [List.take_of_length_le (by rw [HL.out]; omega)] at hall
      have HA := Lib.hid hall; clear hall
      go_wp2_with fail
      go_ret
      exact ⟨-1, rfl, by rw [HA.out]; simp, by omega, by omega, rfl⟩

theorem containsFunc_any {w : World} {p : HP} {h : HM} (H : HAt w p h) (f : h.Fit) (gb : Nat) (hb : w.cell? ⟨gb, 0, none⟩ = some (.pointer (some ⟨p.g, 0, none⟩))) (A : Option Addr) (n c B : Nat) (xs : List Nat) (hn : n ≤ 9223372036854775807)
    (hr : Reads w B 1 A n (u32s xs)) (h32 : ∀ x ∈ xs, x < 4294967296) :
    Calls Tryd.prog 106 #[.slice A n c, badFn gb] w fun e w' => e = .returned (.bool (xs.any fun o => !h.valB o)) ∧ w = w' := by
  have HC := Lib.hid (indexFunc_any H f gb hb A n c B xs hn hr h32)
  clear H f hb hr h32
  unfold badFn at HC ⊢
  go_enter Tryd.func106, Tryd.ntmps106
  go_wp2_with fail
  refine HC.out.mono ?_
  rintro e w' ⟨j, rfl, hj, hlo, hhi, rfl⟩
  have HJ := Lib.hid hj; clear hj
  go_wp2_with fail
  go_ret
  exact ⟨by rw [← HJ.out]; rfl, rfl⟩
end Go.Proofs.YtblekggklimpeaaDoor
