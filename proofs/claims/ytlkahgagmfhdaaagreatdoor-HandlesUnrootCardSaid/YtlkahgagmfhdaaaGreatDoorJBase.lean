/- Small words of our own for memory: a slice that reads as a list, a block known whole, frames. -/
/- A byte of a word read and set: bits as arithmetic. -/
/- Bytes laid into words, as plain data. -/
import Derived.WalkKit
import Derived.Below
import Derived.Laws.OwnMore
import Derived.Deep.AppendLies
import Derived.Deep.Draws
import Derived.Laws.Rows
import Derived.Lib.Hide
set_option linter.unusedVariables false
set_option linter.unusedSectionVars false
namespace Go.Proofs.YtlkahgagmfhdaaaGreatDoor
open Go.RowKit

theorem block_of_add (a : Addr) (n : Nat) : (a.add n).block = a.block := by unfold Addr.add; split <;> rfl
theorem add_of_add (a : Addr) (i j : Nat) : (a.add i).add j = a.add (i + j) := by
  unfold Addr.add
  by_cases hi : i = 0 <;> by_cases hj : j = 0 <;> simp [hi, hj, Nat.add_assoc]

/-- The slice value '.slice A n c' holds the cells xs, below block B. -/
def Reads (w : World) (B size : Nat) (A : Option Addr) (n : Nat) (xs : List Value) : Prop :=
  xs.length = n * size ∧ (0 < n → ∃ ad, A = some ad ∧ ad.block < B ∧ ∀ j u, xs[j]? = some u → w.cell? (ad.add j) = some u)

section
variable {w w' : World} {B B' size n : Nat} {A : Option Addr} {xs : List Value}
theorem Reads.none_ : Reads w B size A 0 [] := ⟨by simp, fun h => absurd h (by omega)⟩
theorem Reads.at_ {k : Nat} (h : Reads w B 1 A n xs) (hk : k < n) : ∃ ad u, A = some ad ∧ ad.block < B ∧ xs[k]? = some u ∧ w.cell? (ad.add k) = some u := by
  obtain ⟨ad, e, hb, hc⟩ := h.2 (by omega)
  have hl : k < xs.length := by have := h.1; omega
  exact ⟨ad, xs[k], e, hb, List.getElem?_eq_getElem hl, hc k _ (List.getElem?_eq_getElem hl)⟩
theorem Reads.keep (h : Reads w B size A n xs) (hk : ∀ p : Addr, p.block < B → w'.cell? p = w.cell? p) : Reads w' B size A n xs :=
  ⟨h.1, fun hn => by
    obtain ⟨ad, e, hb, hc⟩ := h.2 hn
    exact ⟨ad, e, hb, fun j u hu => (hk _ (by rw [block_of_add]; exact hb)).trans (hc j u hu)⟩⟩
theorem Reads.more (h : Reads w B size A n xs) (hB : B ≤ B') : Reads w B' size A n xs :=
  ⟨h.1, fun hn => by
    obtain ⟨ad, e, hb, hc⟩ := h.2 hn
    exact ⟨ad, e, by omega, hc⟩⟩
theorem Reads.below (h : Reads w B size A n xs) (hb : Below B w w') : Reads w' B size A n xs := h.keep fun _ hp => hb.cell hp
theorem Reads.drew (h : Reads w B size A n xs) : Reads w.drew B size A n xs := h
theorem Reads.drewN (h : Reads w B size A n xs) (k : Nat) : Reads (w.drewN k) B size A n xs := h
theorem Reads.alloc (h : Reads w B size A n xs) (hB : B ≤ w.heap.size) (o : Obj) : Reads (w.alloc o) B size A n xs := h.keep fun p hp => World.cell?_alloc_lt w o p (by omega)
theorem Reads.setCell (h : Reads w B size A n xs) {p : Addr} (hB : B ≤ p.block) (u : Value) : Reads (w.setCell p u) B size A n xs :=
  h.keep fun q hq => World.cell?_setCell_other w p q u (fun e => by subst e; omega)
theorem Reads.grown (h : Reads w B size A n xs) {row : Option Nat} (hg : w.grownBy w' row) (hB : B ≤ w.heap.size) (hr : ∀ g, row = some g → B ≤ g) : Reads w' B size A n xs :=
  h.keep fun p hp => World.cell?_of_block (hg.block p.block (by omega) (fun e => by have := hr _ e.symm; omega))
end
end Go.Proofs.YtlkahgagmfhdaaaGreatDoor

namespace Go.Proofs.YtlkahgagmfhdaaaGreatDoor
open Go.RowKit

/-- Byte r of a word, and the word with another byte there. -/
def byteOf (w r : Nat) : Nat := w / 2 ^ (8 * r) % 256
def setByte (w r b : Nat) : Nat := 2 ^ (8 * r + 8) * (w / 2 ^ (8 * r + 8)) + (2 ^ (8 * r) * b + w % 2 ^ (8 * r))

theorem setByte_lt (w r b : Nat) (hw : w < 4294967296) (hr : r < 4) (hb : b < 256) : setByte w r b < 4294967296 := by
  unfold setByte
  rcases (by omega : r = 0 ∨ r = 1 ∨ r = 2 ∨ r = 3) with rfl | rfl | rfl | rfl <;> simp <;> omega

theorem mask_bit (n : Nat) (hn : n = 0 ∨ n = 8 ∨ n = 16 ∨ n = 24) (j : Nat) (hj : j < 32) : (4294967295 - 255 * 2 ^ n).testBit j = decide (j < n ∨ n + 8 ≤ j) := by
  rcases hn with rfl | rfl | rfl | rfl <;> revert j <;> decide

theorem set_bits (w b n : Nat) (hw : w < 4294967296) (hb : b < 256) (hn : n = 0 ∨ n = 8 ∨ n = 16 ∨ n = 24) :
    (w &&& (4294967295 - 255 * 2 ^ n)) ||| (b * 2 ^ n) = 2 ^ (n + 8) * (w / 2 ^ (n + 8)) + (2 ^ n * b + w % 2 ^ n) := by
  have hp : 0 < 2 ^ n := Nat.two_pow_pos n
  have h1 : w % 2 ^ n < 2 ^ n := Nat.mod_lt _ hp
  have h2 : 2 ^ n * b + w % 2 ^ n < 2 ^ (n + 8) := by
    rw [Nat.pow_add]
    calc 2 ^ n * b + w % 2 ^ n < 2 ^ n * b + 2 ^ n := by omega
      _ = 2 ^ n * (b + 1) := by rw [Nat.mul_add, Nat.mul_one]
      _ ≤ 2 ^ n * 2 ^ 8 := Nat.mul_le_mul_left _ (by omega)
  have hw32 : ∀ j, 32 ≤ j → w.testBit j = false := fun j hj => Nat.testBit_lt_two_pow (Nat.lt_of_lt_of_le hw (Nat.pow_le_pow_right (n := 2) (by omega) hj))
  have hb8 : ∀ j, 8 ≤ j → b.testBit j = false := fun j hj => Nat.testBit_lt_two_pow (Nat.lt_of_lt_of_le hb (Nat.pow_le_pow_right (n := 2) (by omega) hj))
  apply Nat.eq_of_testBit_eq
  intro j
  rw [Nat.testBit_two_pow_mul_add _ h2, Nat.testBit_two_pow_mul_add _ h1, Nat.testBit_or, Nat.testBit_and, Nat.testBit_mul_two_pow, Nat.testBit_mod_two_pow, Nat.testBit_div_two_pow]
  by_cases hj : j < 32
  · rw [mask_bit n hn j hj]
    by_cases c1 : j < n
    · simp [c1, show j < n + 8 by omega, show ¬ n ≤ j by omega]
    · by_cases c2 : j < n + 8
      · simp [c1, c2, show n ≤ j by omega, show ¬ n + 8 ≤ j by omega]
      · have e : j - (n + 8) + (n + 8) = j := by omega
        simp [c1, c2, show n ≤ j by omega, show n + 8 ≤ j by omega, hb8 (j - n) (by omega)]
  · have : ¬ j < n + 8 := by omega
    simp [this, hw32 j (by omega), show n ≤ j by omega, hb8 (j - n) (by omega), show n + 8 ≤ j by omega]

theorem setByte_bits (w r b : Nat) (hw : w < 4294967296) (hb : b < 256) (hr : r < 4) :
    bits .or .u32 (bits .andNot .u32 (w : Int) ((255 * 2 ^ (8 * r) : Nat) : Int)) ((b * 2 ^ (8 * r) : Nat) : Int) = (setByte w r b : Nat) := by
  have hn : 8 * r = 0 ∨ 8 * r = 8 ∨ 8 * r = 16 ∨ 8 * r = 24 := by omega
  have h1 : 255 * 2 ^ (8 * r) < 4294967296 := by rcases hn with h | h | h | h <;> rw [h] <;> omega
  have h2 : b * 2 ^ (8 * r) < 4294967296 := by rcases hn with h | h | h | h <;> rw [h] <;> omega
  rw [u32_andNot_nat _ _ hw h1, u32_or_nat _ _ (Nat.lt_of_le_of_lt Nat.and_le_left hw) h2, set_bits w b (8 * r) hw hb hn]
  rfl
end Go.Proofs.YtlkahgagmfhdaaaGreatDoor

namespace Go.Proofs.YtlkahgagmfhdaaaGreatDoor
open Go.RowKit

def wordAt (bs : List Nat) (j : Nat) : Nat := bs.getD (4 * j) 0 + bs.getD (4 * j + 1) 0 * 256 + bs.getD (4 * j + 2) 0 * 65536 + bs.getD (4 * j + 3) 0 * 16777216
def packK (F : Nat) (bs : List Nat) (k : Nat) : List Nat := (List.range F).map (wordAt (bs.take k))
def packM (bs : List Nat) : List Nat := packK ((bs.length + 3) / 4) bs bs.length
theorem packK_len (F : Nat) (bs : List Nat) (k : Nat) : (packK F bs k).length = F := by simp [packK]
theorem packM_len (bs : List Nat) : (packM bs).length = (bs.length + 3) / 4 := by simp [packM, packK_len]

theorem take_getD (bs : List Nat) (k m : Nat) : (bs.take k).getD m 0 = if m < k then bs.getD m 0 else 0 := by
  rw [List.getD_eq_getElem?_getD, List.getElem?_take]
  split <;> simp [List.getD_eq_getElem?_getD]
theorem getD_lt (bs : List Nat) (h : ∀ x ∈ bs, x < 256) (m : Nat) : bs.getD m 0 < 256 := by
  rw [List.getD_eq_getElem?_getD]
  cases hm : bs[m]? with
  | none => simp
  | some x => exact h x (List.mem_of_getElem? hm)
theorem wordAt_lt (bs : List Nat) (h : ∀ x ∈ bs, x < 256) (j : Nat) : wordAt bs j < 4294967296 := by
  unfold wordAt
  have h0 := getD_lt bs h (4 * j)
  have h1 := getD_lt bs h (4 * j + 1)
  have h2 := getD_lt bs h (4 * j + 2)
  have h3 := getD_lt bs h (4 * j + 3)
  omega
theorem packK_zero (F : Nat) (bs : List Nat) : packK F bs 0 = List.replicate F 0 := by
  unfold packK
  apply List.ext_getElem
  · simp
  · intro i h1 h2
    simp [wordAt]
theorem packK_get (F : Nat) (bs : List Nat) (k j : Nat) (hj : j < F) : (packK F bs k)[j]? = some (wordAt (bs.take k) j) := by
  simp [packK, hj]

/-- One byte more. -/
theorem wordAt_step (bs : List Nat) (h : ∀ x ∈ bs, x < 256) (k : Nat) :
    wordAt (bs.take k) (k / 4) ||| (bs.getD k 0 * 2 ^ (8 * (k % 4))) = wordAt (bs.take (k + 1)) (k / 4) ∧
    (∀ j, j ≠ k / 4 → wordAt (bs.take (k + 1)) j = wordAt (bs.take k) j) := by
  refine ⟨?_, fun j hj => ?_⟩
  · have hx := getD_lt bs h k
    have h0 := getD_lt bs h (4 * (k / 4))
    have h1 := getD_lt bs h (4 * (k / 4) + 1)
    have h2 := getD_lt bs h (4 * (k / 4) + 2)
    have hold : wordAt (bs.take k) (k / 4) < 2 ^ (8 * (k % 4)) := by
      unfold wordAt
      simp only [take_getD]
      rcases (by omega : k % 4 = 0 ∨ k % 4 = 1 ∨ k % 4 = 2 ∨ k % 4 = 3) with r | r | r | r <;> rw [r]
      · rw [if_neg (by omega), if_neg (by omega), if_neg (by omega), if_neg (by omega)]; omega
      · rw [if_pos (by omega), if_neg (by omega), if_neg (by omega), if_neg (by omega)]; omega
      · rw [if_pos (by omega), if_pos (by omega), if_neg (by omega), if_neg (by omega)]; omega
      · rw [if_pos (by omega), if_pos (by omega), if_pos (by omega), if_neg (by omega)]; omega
    rw [Nat.or_comm, nat_join (8 * (k % 4)) _ _ (by simp) hold]
    unfold wordAt
    simp only [take_getD]
    rcases (by omega : k % 4 = 0 ∨ k % 4 = 1 ∨ k % 4 = 2 ∨ k % 4 = 3) with r | r | r | r <;> rw [r]
    · have e : 4 * (k / 4) = k := by omega
      rw [e, if_neg (by omega), if_neg (by omega), if_neg (by omega), if_neg (by omega), if_pos (by omega), if_neg (by omega), if_neg (by omega), if_neg (by omega)]; omega
    · have e : 4 * (k / 4) + 1 = k := by omega
      rw [e, if_pos (by omega), if_neg (by omega), if_neg (by omega), if_neg (by omega), if_pos (by omega), if_pos (by omega), if_neg (by omega), if_neg (by omega)]; omega
    · have e : 4 * (k / 4) + 2 = k := by omega
      rw [e, if_pos (by omega), if_pos (by omega), if_neg (by omega), if_neg (by omega), if_pos (by omega), if_pos (by omega), if_pos (by omega), if_neg (by omega)]; omega
    · have e : 4 * (k / 4) + 3 = k := by omega
      rw [e, if_pos (by omega), if_pos (by omega), if_pos (by omega), if_neg (by omega), if_pos (by omega), if_pos (by omega), if_pos (by omega), if_pos (by omega)]; omega
  · unfold wordAt
    simp only [take_getD]
    have e0 : (4 * j < k + 1) = (4 * j < k) := by simp; omega
    have e1 : (4 * j + 1 < k + 1) = (4 * j + 1 < k) := by simp; omega
    have e2 : (4 * j + 2 < k + 1) = (4 * j + 2 < k) := by simp; omega
    have e3 : (4 * j + 3 < k + 1) = (4 * j + 3 < k) := by simp; omega
    simp only [e0, e1, e2, e3]

theorem packK_step (F : Nat) (bs : List Nat) (h : ∀ x ∈ bs, x < 256) (k : Nat) (hk : k / 4 < F) :
    (packK F bs k).set (k / 4) (wordAt (bs.take k) (k / 4) ||| (bs.getD k 0 * 2 ^ (8 * (k % 4)))) = packK F bs (k + 1) := by
  obtain ⟨h1, h2⟩ := wordAt_step bs h k
  apply List.ext_getElem
  · simp [packK]
  · intro j hj1 hj2
    rw [List.getElem_set]
    split
    · rename_i e
      subst e
      rw [h1]
      simp [packK]
    · rename_i e
      simp only [packK, List.getElem_map, List.getElem_range]
      exact (h2 j (fun e' => e e'.symm)).symm
end Go.Proofs.YtlkahgagmfhdaaaGreatDoor
