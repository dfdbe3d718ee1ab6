/- CRC-32 sees every change of up to 32 bits one behind the other. Plain data. -/
/- Damaged images: what is read of them. Plain data. -/
/- append onto a row of bytes inside a fence; the block of what comes of it. -/
/- A reader of bytes: the program's. -/
/- A reader's number: the program's. Printed by wip/src/XIRNum.py. -/
import Derived.Test.YtfpleoblehfhbaaGreatDoorJIHead
import Derived.OwnWalkIn
set_option linter.unusedVariables false
set_option linter.unusedSimpArgs false
set_option linter.unusedSectionVars false
namespace Go.Proofs.YtfpleoblehfhbaaGreatDoor
theorem crcBit_bit (s i : Nat) : (crcBit s).testBit i = (s.testBit (i + 1) ^^ (s.testBit 0 && (3988292384 : Nat).testBit i)) := by
  unfold crcBit
  by_cases h : s % 2 = 1
  · rw [if_pos h, Nat.testBit_xor, Nat.testBit_div_two, Nat.testBit_zero, h]
    simp
  · rw [if_neg h, Nat.testBit_div_two, Nat.testBit_zero]
    simp [h]
theorem crcBit_xor (a b : Nat) : crcBit (a ^^^ b) = crcBit a ^^^ crcBit b := by
  apply Nat.eq_of_testBit_eq
  intro i
  rw [crcBit_bit, Nat.testBit_xor, Nat.testBit_xor, Nat.testBit_xor, crcBit_bit, crcBit_bit]
  cases a.testBit (i + 1) <;> cases b.testBit (i + 1) <;> cases a.testBit 0 <;> cases b.testBit 0 <;> cases (3988292384 : Nat).testBit i <;> rfl
theorem crcN_xor : ∀ (n a b : Nat), crcN n (a ^^^ b) = crcN n a ^^^ crcN n b
  | 0, _, _ => rfl
  | n + 1, a, b => by
    show crcBit (crcN n (a ^^^ b)) = crcBit (crcN n a) ^^^ crcBit (crcN n b)
    rw [crcN_xor n, crcBit_xor]
theorem crcBit_two (y : Nat) : crcBit (2 * y) = y := by
  unfold crcBit
  rw [if_neg (by omega)]
  omega
theorem crcN_pow : ∀ (k y : Nat), crcN k (2 ^ k * y) = y
  | 0, y => by simp [crcN]
  | k + 1, y => by
    show crcBit (crcN k (2 ^ (k + 1) * y)) = y
    rw [Nat.pow_succ, Nat.mul_assoc, crcN_pow k (2 * y), crcBit_two]
theorem crcN_add : ∀ (a b s : Nat), crcN (a + b) s = crcN b (crcN a s)
  | a, 0, s => rfl
  | a, b + 1, s => by
    show crcBit (crcN (a + b) s) = crcBit (crcN b (crcN a s))
    rw [crcN_add a b]
theorem crcBit_zero {s : Nat} (hs : s < 4294967296) (h : crcBit s = 0) : s = 0 := by
  unfold crcBit at h
  split at h
  · have h1 : s / 2 = 3988292384 := by
      have h2 : s / 2 ^^^ 3988292384 ^^^ 3988292384 = 0 ^^^ 3988292384 := by rw [h]
      rw [Nat.xor_assoc, Nat.xor_self, Nat.xor_zero, Nat.zero_xor] at h2
      exact h2
    omega
  · omega
theorem crcN_zero : ∀ (n : Nat) {s : Nat}, s < 4294967296 → crcN n s = 0 → s = 0
  | 0, _, _, h => h
  | n + 1, s, hs, h => crcN_zero n hs (crcBit_zero (crcN_lt n s hs) h)
/-- Bytes as one number, the first the lowest. -/
def valB8 : List Nat → Nat
  | [] => 0
  | a :: l => a ^^^ (256 * valB8 l)
theorem crc_val : ∀ (d : List Nat) (D : Nat), crc D d = crcN (8 * d.length) (D ^^^ valB8 d)
  | [], D => by show D = D ^^^ 0; simp
  | a :: d, D => by
    show crc (crcByte D a) d = _
    rw [crc_val d, List.length_cons, show 8 * (d.length + 1) = 8 + 8 * d.length by omega, crcN_add]
    show crcN _ (crcN 8 (D ^^^ a) ^^^ valB8 d) = crcN _ (crcN 8 (D ^^^ (a ^^^ 256 * valB8 d)))
    rw [← Nat.xor_assoc, crcN_xor 8 (D ^^^ a), show 256 * valB8 d = 2 ^ 8 * valB8 d from rfl, crcN_pow]
theorem crc_burst {a b : List Nat} {s c p : Nat} (hl : a.length = b.length) (hv : valB8 b = valB8 a ^^^ (2 ^ p * c)) (hc : c < 4294967296) (h0 : c ≠ 0) (hp : p ≤ 8 * a.length) : crc s a ≠ crc s b := by
  intro h
  rw [crc_val, crc_val, hv, ← hl, ← Nat.xor_assoc, crcN_xor _ (s ^^^ valB8 a)] at h
  have h1 : crcN (8 * a.length) (2 ^ p * c) = 0 := by
    have h2 : ∀ x y : Nat, x = x ^^^ y → y = 0 := fun x y e => by
      have : x ^^^ x = x ^^^ (x ^^^ y) := by rw [← e]
      rw [Nat.xor_self, ← Nat.xor_assoc, Nat.xor_self, Nat.zero_xor] at this
      exact this.symm
    exact h2 _ _ h
  rw [show 8 * a.length = p + (8 * a.length - p) by omega, crcN_add, crcN_pow] at h1
  exact h0 (crcN_zero _ hc h1)
theorem valB8_append : ∀ (a b : List Nat), valB8 (a ++ b) = valB8 a ^^^ (2 ^ (8 * a.length) * valB8 b)
  | [], b => by simp [valB8]
  | x :: a, b => by
    show x ^^^ 256 * valB8 (a ++ b) = x ^^^ 256 * valB8 a ^^^ _
    rw [valB8_append a b, List.length_cons, show (256 : Nat) = 2 ^ 8 from rfl, Nat.mul_comm (2 ^ 8), ← Nat.shiftLeft_eq, Nat.shiftLeft_xor_distrib, Nat.shiftLeft_eq, Nat.shiftLeft_eq, Nat.xor_assoc, Nat.mul_comm (2 ^ 8) (valB8 a),
      show 2 ^ (8 * (a.length + 1)) = 2 ^ (8 * a.length) * 2 ^ 8 by rw [← Nat.pow_add, Nat.mul_add]]
    congr 2
    rw [Nat.mul_assoc, Nat.mul_comm (valB8 b), ← Nat.mul_assoc]
theorem valB8_set : ∀ (l : List Nat) (i : Nat) (v : Nat), i < l.length → valB8 (l.set i (l.getD i 0 ^^^ v)) = valB8 l ^^^ (2 ^ (8 * i) * v)
  | [], i, v, h => by cases h
  | a :: l, 0, v, h => by
    show (a ^^^ v) ^^^ 256 * valB8 l = (a ^^^ 256 * valB8 l) ^^^ (2 ^ (8 * 0) * v)
    rw [Nat.mul_zero, Nat.pow_zero, Nat.one_mul, Nat.xor_assoc, Nat.xor_comm v, ← Nat.xor_assoc]
  | a :: l, i + 1, v, h => by
    show a ^^^ 256 * valB8 (l.set i (l.getD i 0 ^^^ v)) = (a ^^^ 256 * valB8 l) ^^^ _
    rw [valB8_set l i v (by simpa using h), show (256 : Nat) = 2 ^ 8 from rfl, Nat.mul_comm (2 ^ 8), ← Nat.shiftLeft_eq, Nat.shiftLeft_xor_distrib, Nat.shiftLeft_eq, Nat.shiftLeft_eq, Nat.mul_comm (2 ^ 8), Nat.xor_assoc,
      show 2 ^ (8 * (i + 1)) = 2 ^ (8 * i) * 2 ^ 8 by rw [← Nat.pow_add, Nat.mul_add]]
    congr 2
    rw [Nat.mul_assoc, Nat.mul_comm v, ← Nat.mul_assoc]
theorem mod_pow_xor (c k : Nat) : c % 2 ^ (k + 1) = (c % 2 ^ k) ^^^ (if c / 2 ^ k % 2 = 1 then 2 ^ k else 0) := by
  apply Nat.eq_of_testBit_eq
  intro i
  rw [Nat.testBit_xor, Nat.testBit_mod_two_pow, Nat.testBit_mod_two_pow]
  have hk : c.testBit k = decide (c / 2 ^ k % 2 = 1) := by
    rw [Nat.testBit_eq_decide_div_mod_eq]
  have hz : (if c / 2 ^ k % 2 = 1 then 2 ^ k else 0).testBit i = (decide (c / 2 ^ k % 2 = 1) && decide (i = k)) := by
    split
    · rename_i h
      rw [Nat.testBit_two_pow]
      simp [h, eq_comm]
    · rename_i h
      simp [h]
  rw [hz, ← hk]
  rcases Nat.lt_trichotomy i k with h | h | h
  · have h1 : i < k + 1 := by omega
    have h2 : ¬ i = k := by omega
    simp [h, h1, h2]
  · subst h
    have h1 : i < i + 1 := by omega
    simp
  · have h1 : ¬ i < k + 1 := by omega
    have h2 : ¬ i < k := by omega
    have h3 : ¬ i = k := by omega
    simp [h1, h2, h3]
/-- Bits flipped: of the k lowest of change, from a bit of a byte on. -/
def flipsM (bs : List Nat) (fr bit change : Nat) : Nat → List Nat
  | 0 => bs
  | k + 1 => if change / 2 ^ k % 2 = 1 then (flipsM bs fr bit change k).set (fr + (bit + k) / 8) ((flipsM bs fr bit change k).getD (fr + (bit + k) / 8) 0 ^^^ 2 ^ ((bit + k) % 8)) else flipsM bs fr bit change k
theorem getDB_mid (pre mid post : List Nat) (j : Nat) (h : j < mid.length) : (pre ++ mid ++ post).getD (pre.length + j) 0 = mid.getD j 0 := by
  rw [List.append_assoc, List.getD_eq_getElem?_getD, List.getElem?_append_right (by omega), Nat.add_sub_cancel_left, List.getElem?_append_left h, ← List.getD_eq_getElem?_getD]
theorem setB_mid (pre mid post : List Nat) (j v : Nat) (h : j < mid.length) : (pre ++ mid ++ post).set (pre.length + j) v = pre ++ mid.set j v ++ post := by
  rw [List.append_assoc, List.set_append_right _ _ (by omega), Nat.add_sub_cancel_left, List.set_append_left _ _ h, ← List.append_assoc]
theorem flips_mid (pre mid post : List Nat) (bit change : Nat) : ∀ k, bit + k ≤ 8 * mid.length → (∀ x ∈ mid, x < 256) →
    ∃ mid', flipsM (pre ++ mid ++ post) pre.length bit change k = pre ++ mid' ++ post ∧ mid'.length = mid.length ∧ valB8 mid' = valB8 mid ^^^ (2 ^ bit * (change % 2 ^ k)) ∧ ∀ x ∈ mid', x < 256
  | 0, _, h8 => ⟨mid, rfl, rfl, by simp [Nat.mod_one], h8⟩
  | k + 1, h, h8 => by
    obtain ⟨m, h1, h2, h3, h4⟩ := flips_mid pre mid post bit change k (by omega) h8
    unfold flipsM
    rw [h1]
    by_cases hc : change / 2 ^ k % 2 = 1
    · rw [if_pos hc]
      have hj : (bit + k) / 8 < m.length := by omega
      rw [getDB_mid _ _ _ _ hj, setB_mid _ _ _ _ _ hj]
      refine ⟨_, rfl, by rw [List.length_set, h2], ?_, ?_⟩
      · rw [valB8_set m _ _ hj, h3, mod_pow_xor change k, if_pos hc, Nat.xor_assoc]
        congr 1
        have e1 : 2 ^ (8 * ((bit + k) / 8)) * 2 ^ ((bit + k) % 8) = 2 ^ k * 2 ^ bit := by
          rw [← Nat.pow_add, ← Nat.pow_add]
          congr 1
          omega
        rw [e1, Nat.mul_comm (2 ^ bit), Nat.mul_comm (2 ^ bit), ← Nat.shiftLeft_eq, ← Nat.shiftLeft_eq, ← Nat.shiftLeft_eq, Nat.shiftLeft_xor_distrib]
      · intro x hx
        rcases List.mem_or_eq_of_mem_set hx with hx | rfl
        · exact h4 x hx
        · have h5 : m.getD ((bit + k) / 8) 0 < 256 := by
            rw [List.getD_eq_getElem?_getD, List.getElem?_eq_getElem hj]
            exact h4 _ (List.getElem_mem hj)
          exact Nat.xor_lt_two_pow (n := 8) h5 (Nat.pow_lt_pow_right (by decide) (Nat.mod_lt _ (by decide)))
    · rw [if_neg hc]
      refine ⟨m, rfl, h2, ?_, h4⟩
      rw [h3, mod_pow_xor change k, if_neg hc, Nat.xor_zero]
theorem flips_none (bs : List Nat) (fr bit change : Nat) : ∀ k, change % 2 ^ k = 0 → flipsM bs fr bit change k = bs
  | 0, _ => rfl
  | k + 1, h => by
    have h1 : change % 2 ^ k = 0 := by
      have := Nat.mod_mod_of_dvd change (show 2 ^ k ∣ 2 ^ (k + 1) from ⟨2, by rw [Nat.pow_succ]⟩)
      rw [h] at this
      simpa using this.symm
    have h2 : ¬ change / 2 ^ k % 2 = 1 := fun hc => by
      have h3 := mod_pow_xor change k
      rw [h, h1, if_pos hc, Nat.zero_xor] at h3
      have := Nat.two_pow_pos k
      omega
    unfold flipsM
    rw [if_neg h2, flips_none bs fr bit change k h1]
theorem flips_any (change : Nat) : ∀ k, change % 2 ^ k ≠ 0 ↔ ∃ j, j < k ∧ change / 2 ^ j % 2 = 1
  | 0 => ⟨fun h => absurd (by simp [Nat.mod_one]) h, fun ⟨j, h, _⟩ => by omega⟩
  | k + 1 => by
    have ih := flips_any change k
    have hx := mod_pow_xor change k
    constructor
    · intro h
      by_cases hc : change / 2 ^ k % 2 = 1
      · exact ⟨k, by omega, hc⟩
      · rw [if_neg hc, Nat.xor_zero] at hx
        obtain ⟨j, h1, h2⟩ := ih.1 (by rw [← hx]; exact h)
        exact ⟨j, by omega, h2⟩
    · rintro ⟨j, h1, h2⟩ h0
      rcases Nat.lt_or_ge j k with hj | hj
      · have := ih.2 ⟨j, hj, h2⟩
        have h3 := Nat.mod_mod_of_dvd change (show 2 ^ k ∣ 2 ^ (k + 1) from ⟨2, by rw [Nat.pow_succ]⟩)
        rw [h0] at h3
        simp at h3
        exact this h3.symm
      · obtain rfl : j = k := by omega
        rw [if_pos h2, h0] at hx
        have h4 : (change % 2 ^ j ^^^ 2 ^ j).testBit j = true := by
          rw [Nat.testBit_xor, Nat.testBit_mod_two_pow]
          simp
        rw [← hx] at h4
        simp at h4
end Go.Proofs.YtfpleoblehfhbaaGreatDoor

namespace Go.Proofs.YtfpleoblehfhbaaGreatDoor
theorem four4_inj {a b : Nat} (ha : a < 4294967296) (hb : b < 4294967296) (h : four4 a = four4 b) : a = b := by
  unfold four4 at h
  injection h with h1 h
  injection h with h2 h
  injection h with h3 h
  injection h with h4 h
  omega
theorem sumN_inj {a b : List Nat} (ha : ∀ x ∈ a, x < 256) (hb : ∀ x ∈ b, x < 256) (h : sumN a = sumN b) : crc 4294967295 a = crc 4294967295 b := by
  have h1 := crc_lt 4294967295 a (by decide) ha
  have h2 := crc_lt 4294967295 b (by decide) hb
  unfold sumN at h
  omega
theorem xor_mul (p a b : Nat) : 2 ^ p * (a ^^^ b) = 2 ^ p * a ^^^ 2 ^ p * b := by
  rw [Nat.mul_comm, Nat.mul_comm _ a, Nat.mul_comm _ b, ← Nat.shiftLeft_eq, ← Nat.shiftLeft_eq, ← Nat.shiftLeft_eq, Nat.shiftLeft_xor_distrib]
/-- Bytes of which some in the middle are changed have another sum. -/
theorem sum_dmg {pre mid mid' post : List Nat} {bit c : Nat} (h1 : ∀ x ∈ pre, x < 256) (h2 : ∀ x ∈ mid, x < 256) (h2' : ∀ x ∈ mid', x < 256) (h3 : ∀ x ∈ post, x < 256) (hl : mid'.length = mid.length)
    (hv : valB8 mid' = valB8 mid ^^^ (2 ^ bit * c)) (hc : c < 4294967296) (h0 : c ≠ 0) (hb : bit ≤ 8 * mid.length) : sumN (pre ++ mid' ++ post) ≠ sumN (pre ++ mid ++ post) := by
  intro h
  have hh := sumN_inj (by
    intro x hx
    simp only [List.mem_append] at hx
    rcases hx with (hx | hx) | hx
    · exact h1 x hx
    · exact h2' x hx
    · exact h3 x hx) (by
    intro x hx
    simp only [List.mem_append] at hx
    rcases hx with (hx | hx) | hx
    · exact h1 x hx
    · exact h2 x hx
    · exact h3 x hx) h
  refine crc_burst (p := 8 * pre.length + bit) (by simp [hl]) ?_ hc h0 (by simp; omega) hh.symm
  rw [List.append_assoc, List.append_assoc, valB8_append pre (mid' ++ post), valB8_append pre (mid ++ post), valB8_append mid' post, valB8_append mid post, hl, hv, xor_mul, xor_mul, xor_mul, ← Nat.mul_assoc (2 ^ (8 * pre.length)) (2 ^ bit), ← Nat.pow_add]
  simp only [Nat.xor_assoc]
  congr 2
  exact Nat.xor_comm _ _
/-- A section with another payload and the old sum. -/
def secD (tag : Nat) (p p' : List Nat) : List Nat := [tag] ++ (cnt7 p.length ++ (p' ++ four4 (sumN (tag :: p))))
theorem secD_self (tag : Nat) (p : List Nat) : secD tag p p = secI tag p := rfl
theorem secI_mid (tag : Nat) (p : List Nat) : secI tag p = ([tag] ++ cnt7 p.length) ++ p ++ four4 (sumN (tag :: p)) := by unfold secI; simp
theorem secD_mid (tag : Nat) (p p' : List Nat) : secD tag p p' = ([tag] ++ cnt7 p.length) ++ p' ++ four4 (sumN (tag :: p)) := by unfold secD; simp
theorem rdSec_dmg {tag : Nat} {p p' : List Nat} (t : List Nat) (hl : p'.length = p.length) (hp : p.length < 4294967296) (ht : tag < 256) (h8 : ∀ x ∈ p, x < 256) (h8' : ∀ x ∈ p', x < 256) (hs : sumN (tag :: p') ≠ sumN (tag :: p)) : rdSec tag (secD tag p p' ++ t) = .error 144 := by
  have e : secD tag p p' ++ t = tag :: (cnt7 p.length ++ (p' ++ (four4 (sumN (tag :: p)) ++ t))) := by unfold secD; simp
  have b1 := (sumN_eq (zs := tag :: p) (fun x hx => by rcases List.mem_cons.1 hx with rfl | hx; exact ht; exact h8 x hx)).2
  have b2 := (sumN_eq (zs := tag :: p') (fun x hx => by rcases List.mem_cons.1 hx with rfl | hx; exact ht; exact h8' x hx)).2
  rw [e]
  unfold rdSec
  simp only [ne_eq, not_true_eq_false, if_false]
  rw [rdNum_cnt7 hp]
  simp only
  have h4 : (four4 (sumN (tag :: p))).length = 4 := rfl
  rw [if_neg (by simp only [List.length_append, h4]; omega), ← hl, List.drop_left, List.take_left, List.take_append_of_le_length (by rw [h4]; omega), List.take_of_length_le (by rw [h4]; omega), if_neg]
  exact fun hh => hs (four4_inj b2 b1 hh.symm)
section
variable {h : HM} {l : List Ob}
/-- The image of version 2 with one payload damaged. -/
theorem take_bad2 {x : List Nat} (hx : x.length ≤ 8388603) (he : newM x = .error 144) : takeR ([69, 70, 73, 71, 2] ++ x) = .error 144 := by
  have ht : ([69, 70, 73, 71, 2] ++ x).take 4 = [69, 70, 73, 71] := rfl
  have hg : ([69, 70, 73, 71, 2] ++ x).getD 4 0 = 2 := rfl
  have hd : ([69, 70, 73, 71, 2] ++ x).drop 5 = x := rfl
  unfold takeR
  rw [if_neg (by simp; omega), ht, hg, hd, he, if_neg (by simp), if_neg (by decide), if_pos rfl]
theorem new_dmg0 (G : h.Good l) {p' : List Nat} (hl : p'.length = (payH h l).length) (h8' : ∀ x ∈ p', x < 256) (h8 : ∀ x ∈ payH h l, x < 256) (hs : sumN (72 :: p') ≠ sumN (72 :: payH h l)) (t : List Nat) :
    newM (secD 72 (payH h l) p' ++ t) = .error 144 := by
  obtain ⟨h1, h2, h3⟩ := pay_lens G
  unfold newM rdSecs
  rw [rdSec_dmg t hl (by omega) (by decide) h8 h8' hs]
theorem new_dmg1 (G : h.Good l) {p' : List Nat} (hl : p'.length = (objsB (oopsL l) l).length) (h8' : ∀ x ∈ p', x < 256) (h8 : ∀ x ∈ objsB (oopsL l) l, x < 256) (hs : sumN (79 :: p') ≠ sumN (79 :: objsB (oopsL l) l)) (t : List Nat) :
    newM (secI 72 (payH h l) ++ (secD 79 (objsB (oopsL l) l) p' ++ t)) = .error 144 := by
  obtain ⟨h1, h2, h3⟩ := pay_lens G
  unfold newM rdSecs rdSecs
  rw [rdSec_secI 72 _ _ (by omega)]
  simp only
  rw [rdSec_dmg t hl (by omega) (by decide) h8 h8' hs]
theorem new_dmg2 (G : h.Good l) {p' : List Nat} (hl : p'.length = (valsB (oopsL l) h.roots).length) (h8' : ∀ x ∈ p', x < 256) (h8 : ∀ x ∈ valsB (oopsL l) h.roots, x < 256) (hs : sumN (82 :: p') ≠ sumN (82 :: valsB (oopsL l) h.roots)) (t : List Nat) :
    newM (secI 72 (payH h l) ++ (secI 79 (objsB (oopsL l) l) ++ (secD 82 (valsB (oopsL l) h.roots) p' ++ t))) = .error 144 := by
  obtain ⟨h1, h2, h3⟩ := pay_lens G
  unfold newM rdSecs rdSecs rdSecs
  rw [rdSec_secI 72 _ _ (by omega)]
  simp only
  rw [rdSec_secI 79 _ _ (by omega)]
  simp only
  rw [rdSec_dmg t hl (by omega) (by decide) h8 h8' hs]
/-- The image of version 1 with words damaged. -/
theorem old_mid (h : HM) : h.oldI = ([69, 70, 73, 71, 1] ++ (four4 h.last ++ four4 h.words.length)) ++ wordsB h.words ++ (wordsB h.roots ++ four4 (sumN h.oldB)) := by
  unfold HM.oldI
  conv => lhs; lhs; unfold HM.oldB
  simp only [List.append_assoc]
theorem old_dmg (f : h.Fit) {m : List Nat} {bit c : Nat} (hl : m.length = (wordsB h.words).length) (h8 : ∀ x ∈ m, x < 256) (hv : valB8 m = valB8 (wordsB h.words) ^^^ (2 ^ bit * c)) (hc : c < 4294967296) (h0 : c ≠ 0) (hb : bit ≤ 8 * (wordsB h.words).length) :
    takeR (([69, 70, 73, 71, 1] ++ (four4 h.last ++ four4 h.words.length)) ++ m ++ (wordsB h.roots ++ four4 (sumN h.oldB))) = .error 144 := by
  have hwl := wordsB_len h.words
  have hrl := wordsB_len h.roots
  have h64 := f.roots
  have hr := f.room
  have hhi := f.hi
  have hs := (sumN_eq (oldB_byte h)).2
  have hx : ∀ t, (([69, 70, 73, 71, 1] ++ (four4 h.last ++ four4 h.words.length)) ++ m ++ t).take 4 = [69, 70, 73, 71] := fun _ => rfl
  have hg : ∀ t, (([69, 70, 73, 71, 1] ++ (four4 h.last ++ four4 h.words.length)) ++ m ++ t).getD 4 0 = 1 := fun _ => rfl
  have hlen : (([69, 70, 73, 71, 1] ++ (four4 h.last ++ four4 h.words.length)) ++ m ++ (wordsB h.roots ++ four4 (sumN h.oldB))).length = 273 + 4 * h.words.length := by
    simp only [List.length_append, four4, List.length_cons, List.length_nil, hl, hwl, hrl, h64]
    omega
  have w9 : word4 (([69, 70, 73, 71, 1] ++ (four4 h.last ++ four4 h.words.length)) ++ m ++ (wordsB h.roots ++ four4 (sumN h.oldB))) 9 = h.words.length := by
    rw [show (([69, 70, 73, 71, 1] ++ (four4 h.last ++ four4 h.words.length)) ++ m ++ (wordsB h.roots ++ four4 (sumN h.oldB))) = ([69, 70, 73, 71, 1] ++ four4 h.last) ++ (four4 h.words.length ++ (m ++ (wordsB h.roots ++ four4 (sumN h.oldB)))) by simp only [List.append_assoc]]
    exact word4_four4 _ _ _ (by omega) 9 rfl
  have hT : (([69, 70, 73, 71, 1] ++ (four4 h.last ++ four4 h.words.length)) ++ m ++ (wordsB h.roots ++ four4 (sumN h.oldB))).take (273 + 4 * h.words.length - 4) = ([69, 70, 73, 71, 1] ++ (four4 h.last ++ four4 h.words.length)) ++ m ++ wordsB h.roots := by
    rw [← List.append_assoc, show 273 + 4 * h.words.length - 4 = (([69, 70, 73, 71, 1] ++ (four4 h.last ++ four4 h.words.length)) ++ m ++ wordsB h.roots).length by
      simp only [List.length_append, four4, List.length_cons, List.length_nil, hl, hwl, hrl, h64]; omega]
    exact List.take_left
  have wS : word4 (([69, 70, 73, 71, 1] ++ (four4 h.last ++ four4 h.words.length)) ++ m ++ (wordsB h.roots ++ four4 (sumN h.oldB))) (273 + 4 * h.words.length - 4) = sumN h.oldB := by
    have := word4_four4 (([69, 70, 73, 71, 1] ++ (four4 h.last ++ four4 h.words.length)) ++ m ++ wordsB h.roots) (sumN h.oldB) [] hs (273 + 4 * h.words.length - 4) (by
      simp only [List.length_append, four4, List.length_cons, List.length_nil, hl, hwl, hrl, h64]; omega)
    rw [List.append_nil, List.append_assoc] at this
    exact this
  unfold takeR
  rw [if_neg (by omega), hx, hg, if_neg (by simp), if_pos rfl]
  unfold oldM
  rw [w9, hlen, wS, hT, if_neg (by omega), if_pos]
  have hB : h.oldB = ([69, 70, 73, 71, 1] ++ (four4 h.last ++ four4 h.words.length)) ++ wordsB h.words ++ wordsB h.roots := by
    unfold HM.oldB
    simp only [List.append_assoc]
  conv => rhs; rw [hB]
  refine sum_dmg ?_ (wordsB_byte _) h8 (wordsB_byte _) hl hv hc h0 hb
  intro x hx
  simp only [List.mem_append] at hx
  rcases hx with hx | hx | hx
  · simp only [List.mem_cons, List.not_mem_nil, or_false] at hx
    omega
  · exact four4_byte _ x hx
  · exact four4_byte _ x hx
end
end Go.Proofs.YtfpleoblehfhbaaGreatDoor

namespace Go.Proofs.YtfpleoblehfhbaaGreatDoor
open Go.RowKit
attribute [local go_sem] Oper.semAt_some
theorem wpListIn_app_RB {F : Fence} {n : Nat} {ops : Array Oper} {rest : List Oper} {o : Oper} {a : Act} {Q : Exit → Act → World → Prop} {w w2 : World} {B m c : Nat} {v : Value} {bs cs : List Nat} {A : Option Addr} (s x : Operand)
    (C : RB w2 w B v bs) (hr : Reads w w.heap.size 1 A m (u8c cs)) (hs : a.eval s = v) (hx : a.eval x = .slice A m c) (hn : bs.length + m ≤ 100000000000000)
    (ho : o.op = .call { callee := .builtin .append, args := #[s, x], argTypes := #[22, 22] }) (hgd : o.guard = none)
    (h : ∀ v' w', RB w2 w' B v' (bs ++ cs) → w.grownBy w' v.ownBlock → wpListIn F n Tryz.prog ops Q rest (a.put o.dst v') w') : wpListIn F n Tryz.prog ops Q (o :: rest) a w := by
  obtain ⟨i0, hi0, hz0, hz1, hz2⟩ := info_parts info_u8
  refine wpListIn_plain hgd fun K hK' => ?_
  obtain ⟨v', w', hrun, h2, h3, h4⟩ := run_append_any (P := Tryz.prog) w B 22 o.type 5 i0 _ 1 1 Tryz.underlying22 hi0 hz0 hz1 hz2 rfl (by omega) v bs.length (u8c bs) C.own w.heap.size A m c (u8c cs) hr (one_u8c _) (by simp only [maxLen]; omega) (by omega) C.top
  unfold Oper.wpIn
  refine ⟨?_, ?_⟩
  · simp [Oper.about, ho, resolve, Target.leads, Sem.run_pure]
  · rw [Oper.semAt_plain F _ _ (by rw [ho]; intro c hc'; cases hc')]
    simp [execOp, ho, resolve, invoke, builtin, hs, hx, hrun, Result.andThen]
    exact hK' _ _ (h _ _ (C.app (by have := hr.1; rw [u8c_len, Nat.mul_one] at this; exact this) h2 h3) h3)
/-- The same outside a fence, with the block of what comes of it. -/
theorem wpList_app_RBat {ops : Array Oper} {rest : List Oper} {o : Oper} {a : Act} {Q : Exit → Act → World → Prop} {w w2 : World} {B m c : Nat} {v : Value} {bs cs : List Nat} {A : Option Addr} (s x : Operand)
    (C : RB w2 w B v bs) (hr : Reads w w.heap.size 1 A m (u8c cs)) (hs : a.eval s = v) (hx : a.eval x = .slice A m c) (hn : bs.length + m ≤ 100000000000000)
    (ho : o.op = .call { callee := .builtin .append, args := #[s, x], argTypes := #[22, 22] }) (hgd : o.guard = none)
    (h : ∀ v' w', RB w2 w' B v' (bs ++ cs) → w.grownBy w' v.ownBlock → (v'.ownBlock = v.ownBlock ∨ v'.ownBlock = some w.heap.size) → wpList Tryz.prog ops Q rest (a.put o.dst v') w') : wpList Tryz.prog ops Q (o :: rest) a w := by
  obtain ⟨i0, hi0, hz0, hz1, hz2⟩ := info_parts info_u8
  refine wpList_append_any _ hgd s x _ ho B 5 i0 _ 1 1 Tryz.underlying22 hi0 hz0 hz1 hz2 rfl (by omega) v bs.length (u8c bs) hs C.own w.heap.size A m c (u8c cs) hx hr (one_u8c _) (by simp only [maxLen]; omega) (by omega) C.top ?_
  intro v4 w4 hown4 hgrow4 hat4
  exact h _ _ (C.app (by have := hr.1; rw [u8c_len, Nat.mul_one] at this; exact this) hown4 hgrow4) hgrow4 hat4
theorem reads_one (w : World) (x : Nat) : Reads (w.alloc (.cells #[.int .u8 (x : Int)] 5)) (w.alloc (.cells #[.int .u8 (x : Int)] 5)).heap.size 1 (some ⟨w.heap.size, 0, none⟩) 1 (u8c [x]) := by
  have h := reads_new w [x] 1 rfl
  rw [World.size_alloc]
  exact h
end Go.Proofs.YtfpleoblehfhbaaGreatDoor

namespace Go.Proofs.YtfpleoblehfhbaaGreatDoor
open Go.RowKit
attribute [local go_sem] Oper.semAt_some

/-- The address of a slice's rest. -/
def tailA (A : Option Addr) (c k : Nat) : Option Addr := if c = k then A else A.map (·.add (k * 1))
theorem slice_rest (w : World) (A : Option Addr) (n c k : Nat) (h : k ≤ n) : (Instr.slice 22 (.slice A n c) (some (.int .i64 k)) none none).run Tryz.prog w = .ok (.slice (tailA A c k) (n - k) (c - k)) w := by
  have he : Program.elem Tryz.prog 22 = 5 := by simp [Program.elem, Tryz.underlying22]
  have hz : ∀ w, (Go.sizeOf 5).run Tryz.prog w = .ok 1 w := fun w => by go_simp
  rw [run_slice_l (P := Tryz.prog) w 22 A n c (by rw [he]; exact Tryz.underlying22) .i64 k (by omega) (by omega), he, hz]
  simp only [Result.andThen, sliced, Int.toNat_natCast]
  rfl
theorem slice_head (w : World) (A : Option Addr) (n c k : Nat) (h : k ≤ c) : (Instr.slice 22 (.slice A n c) none (some (.int .i64 k)) none).run Tryz.prog w = .ok (.slice (tailA A c 0) k c) w := by
  have he : Program.elem Tryz.prog 22 = 5 := by simp [Program.elem, Tryz.underlying22]
  have hz : ∀ w, (Go.sizeOf 5).run Tryz.prog w = .ok 1 w := fun w => by go_simp
  rw [run_slice_h (P := Tryz.prog) w 22 A n c (by rw [he]; exact Tryz.underlying22) .i64 k (by omega) (by omega), he, hz]
  simp only [Result.andThen, sliced, Int.toNat_natCast]
  rfl
theorem reads_rest {w : World} {B n c k : Nat} {A : Option Addr} {bs : List Nat} (h : Reads w B 1 A n (u8c bs)) (hc : n ≤ c) (hk : k ≤ n) : Reads w B 1 (tailA A c k) (n - k) (u8c (bs.drop k)) := by
  have hl : bs.length = n := by have := h.1; rw [u8c_len] at this; omega
  refine ⟨by rw [u8c_len, List.length_drop]; omega, fun hn => ?_⟩
  obtain ⟨ad, e, hb, hx⟩ := h.2 (by omega)
  subst e
  unfold tailA
  rw [if_neg (by omega)]
  refine ⟨ad.add (k * 1), rfl, by rw [block_of_add]; exact hb, fun j u hu => ?_⟩
  have := hx (k + j) u (by unfold u8c at hu ⊢; rw [List.getElem?_map, List.getElem?_drop] at hu; rw [List.getElem?_map]; exact hu)
  rw [show (ad.add (k * 1)).add j = ad.add (k + j) by unfold Addr.add; by_cases hk0 : k = 0 <;> by_cases hj : j = 0 <;> simp [hk0, hj, Nat.add_assoc]]
  exact this
theorem reads_head {w : World} {B n c k : Nat} {A : Option Addr} {bs : List Nat} (h : Reads w B 1 A n (u8c bs)) (hk : k ≤ n) : Reads w B 1 (tailA A c 0) k (u8c (bs.take k)) := by
  have hl : bs.length = n := by have := h.1; rw [u8c_len] at this; omega
  refine ⟨by rw [u8c_len, List.length_take]; omega, fun hn => ?_⟩
  obtain ⟨ad, e, hb, hx⟩ := h.2 (by omega)
  subst e
  have e : tailA (some ad) c 0 = some ad := by
    unfold tailA
    split
    · rfl
    · simp [Addr.add]
  rw [e]
  refine ⟨ad, rfl, hb, fun j u hu => hx j u ?_⟩
  unfold u8c at hu ⊢
  rw [List.getElem?_map, List.getElem?_take] at hu
  rw [List.getElem?_map]
  split at hu
  · exact hu
  · cases hu
/-- A reader in memory: what it has left, and whether it is bad; the bytes lie below L. -/
structure RdAt (w : World) (L rg : Nat) (A : Option Addr) (c : Nat) (bs : List Nat) (bad : Bool) : Prop where
  box : Blk w rg 156 #[.slice A bs.length c, .bool bad]
  cap : bs.length ≤ c
  rd : Reads w L 1 A bs.length (u8c bs)
  far : L ≤ rg
  b8 : ∀ x ∈ bs, x < 256
/-- Only one block is another. -/
structure Fr1 (rg : Nat) (w w' : World) : Prop where
  os : w'.os = w.os
  tape : w'.tape = w.tape
  output : w'.output = w.output
  size : w.heap.size ≤ w'.heap.size
  same : ∀ k, k < w.heap.size → k ≠ rg → w'.heap[k]? = w.heap[k]?
theorem Fr1.refl (rg : Nat) (w : World) : Fr1 rg w w := ⟨rfl, rfl, rfl, Nat.le_refl _, fun _ _ _ => rfl⟩
theorem Fr1.trans {rg : Nat} {w w' w'' : World} (h : Fr1 rg w w') (k : Fr1 rg w' w'') : Fr1 rg w w'' :=
  ⟨k.os.trans h.os, k.tape.trans h.tape, k.output.trans h.output, Nat.le_trans h.size k.size, fun i hi hne => (k.same i (Nat.lt_of_lt_of_le hi h.size) hne).trans (h.same i hi hne)⟩
theorem Fr1.set (rg i : Nat) (w : World) (v : Value) : Fr1 rg w (w.setCell ⟨rg, i, none⟩ v) :=
  ⟨rfl, rfl, rfl, by simp [World.setCell], fun k _ hne => Below.heap_setCell w ⟨rg, i, none⟩ v k hne⟩
theorem Fr1.of_below {rg : Nat} {w w' : World} (h : Below w.heap.size w w') : Fr1 rg w w' := ⟨h.os, h.tape, h.output, h.size, fun k hk _ => h.block k hk⟩
theorem Fr1.below {rg B : Nat} {w w' : World} (h : Fr1 rg w w') (hB : B ≤ rg) (hw : B ≤ w.heap.size) : Below B w w' := ⟨h.os, h.tape, h.output, h.size, fun k hk => h.same k (by omega) (by omega)⟩
theorem RdAt.below {w w' : World} {L rg c : Nat} {A : Option Addr} {bs : List Nat} {bad : Bool} (R : RdAt w L rg A c bs bad) (h : Below w.heap.size w w') : RdAt w' L rg A c bs bad :=
  ⟨R.box.below h R.box.lt, R.cap, R.rd.below (h.mono (by have := R.far; have := R.box.lt; omega)), R.far, R.b8⟩
/-- What is left and whether it is bad, behind a reading. -/
def Rdd {α : Type} (bad : Bool) (r : Option (α × List Nat)) (v : α) (bs' : List Nat) (bad' : Bool) : Prop :=
  (bad' = false → bad = false ∧ r = some (v, bs')) ∧ (bad = false → (∃ p, r = some p) → bad' = false)
/-- The next byte. -/
def rdB : List Nat → Option (Nat × List Nat)
  | [] => none
  | x :: t => some (x, t)
def ByteP (L rg : Nat) (bs : List Nat) (bad : Bool) (w : World) (e : Ending) (w' : World) : Prop :=
  ∃ x A c bs' bad', e = .returned (.int .u8 (x : Nat)) ∧ x < 256 ∧ RdAt w' L rg A c bs' bad' ∧ Fr1 rg w w' ∧ Rdd bad (rdB bs) x bs' bad' ∧ ∃ d, bs = d ++ bs'
set_option maxRecDepth 100000 in
theorem rbyteI_any {w : World} {L rg c : Nat} {A : Option Addr} {bs : List Nat} {bad : Bool} (R : RdAt w L rg A c bs bad) (hn : bs.length ≤ 9000000) :
    Calls Tryz.prog 124 #[.pointer (some ⟨rg, 0, none⟩)] w (ByteP L rg bs bad w) := by
  have c0 := R.box.cell 0
  have c1 := R.box.cell 1
  have z0 := R.box.frozen 0
  have z1 := R.box.frozen 1
  match bs, R with
  | [], R =>
    have HF := Lib.hid (show ByteP L rg [] bad w (.returned (.int .u8 0)) (w.setCell ⟨rg, 1, none⟩ (.bool true)) from
      ⟨0, A, c, [], true, rfl, by decide, ⟨R.box.set_ 1 _, R.cap, R.rd.below (Below.setCell (Below.refl _ _) (p := ⟨rg, 1, none⟩) R.far _), R.far, R.b8⟩, Fr1.set _ _ _ _, ⟨fun h => (by cases h), fun _ h => by obtain ⟨p, hp⟩ := h; cases hp⟩, [], rfl⟩)
    go_enter Tryz.func124, Tryz.ntmps124
    go_wp2_with fail
    go_ret
    exact HF.out
  | x :: t, R =>
    have hc := R.cap
    rw [List.length_cons] at hc
    have hx := R.b8 x (by simp)
    obtain ⟨ad, hA, hb, hcl⟩ := R.rd.2 (by simp)
    subst hA
    have h0 := hcl 0 (.int .u8 (x : Nat)) (by simp [u8c])
    have e0 : ad.add 0 = ad := by simp [Addr.add]
    rw [e0] at h0
    have hsl := fun w => slice_rest w (some ad) (t.length + 1) c 1 (by omega)
    have hrr := reads_rest (k := 1) R.rd R.cap (by simp)
    have HF := Lib.hid (show ∀ A' c', tailA (some ad) c 1 = A' → c - 1 = c' → ByteP L rg (x :: t) bad w (.returned (.int .u8 (x : Nat))) (w.setCell ⟨rg, 0, none⟩ (.slice A' t.length c')) from fun A' c' hA' hc' => by
      subst hA' hc'
      exact ⟨x, tailA (some ad) c 1, c - 1, t, bad, rfl, hx, ⟨R.box.set_ 0 _, by omega, by
        have := hrr.below (Below.setCell (Below.refl _ _) (p := ⟨rg, 0, none⟩) R.far (.slice (tailA (some ad) c 1) (t.length + 1 - 1) (c - 1)))
        simpa using this, R.far, fun y hy => R.b8 y (by simp [hy])⟩, Fr1.set _ _ _ _, ⟨fun h => ⟨h, rfl⟩, fun h _ => h⟩, [x], rfl⟩)
    clear hrr R hcl hb e0
    rw [List.length_cons] at c0
    go_enter Tryz.func124, Tryz.ntmps124
    go_wp2_with fail
    all_goals go_ret
    all_goals exact HF.out _ _ (by simp [tailA, Addr.add, *]) (by omega)
end Go.Proofs.YtfpleoblehfhbaaGreatDoor

namespace Go.Proofs.YtfpleoblehfhbaaGreatDoor
open Go.RowKit
attribute [local go_sem] Oper.semAt_some

theorem u8_low7 (x : Nat) (hx : x < 256) : bits .and .u8 (x : Int) 127 = ((x % 128 : Nat) : Int) := by
  have h := u8_and_nat x 127 hx (by omega)
  rw [show x &&& 127 = x % 128 from Nat.and_two_pow_sub_one_eq_mod x 7] at h
  exact h
theorem u64_join (i m y : Nat) (hm : m < 2 ^ i) (hy : y * 2 ^ i < 18446744073709551616) (hm2 : m < 18446744073709551616) : bits .or .u64 (m : Int) ((y * 2 ^ i : Nat) : Int) = ((m + y * 2 ^ i : Nat) : Int) := by
  rw [u64_or_nat _ _ hm2 hy, Nat.or_comm, nat_join i _ _ (by simp) hm, Nat.add_comm]
def NumP (L rg : Nat) (bs : List Nat) (bad : Bool) (w : World) (e : Ending) (w' : World) : Prop :=
  ∃ v A c bs' bad', e = .returned (.int .u32 (v : Nat)) ∧ v < 4294967296 ∧ RdAt w' L rg A c bs' bad' ∧ Fr1 rg w w' ∧ Rdd bad (rdNum bs) v bs' bad' ∧ ∃ d, bs = d ++ bs'
theorem numP_bad {w W : World} {L rg c : Nat} {A : Option Addr} {bs bs' : List Nat} {bad bad' : Bool} (R : RdAt W L rg A c bs' bad') (F : Fr1 rg w W) (hd : ∃ d, bs = d ++ bs') (h : bad = true ∨ rdNum bs = none) :
    NumP L rg bs bad w (.returned (.int .u32 0)) (W.setCell ⟨rg, 1, none⟩ (.bool true)) :=
  ⟨0, A, c, bs', true, rfl, by decide, ⟨R.box.set_ 1 _, R.cap, R.rd.below (Below.setCell (Below.refl _ _) (p := ⟨rg, 1, none⟩) R.far _), R.far, R.b8⟩, F.trans (Fr1.set _ _ _ _), ⟨fun e => (by cases e), fun e hp => by
    obtain ⟨p, hp⟩ := hp
    rcases h with h | h
    · rw [h] at e; cases e
    · rw [h] at hp; cases hp⟩, hd⟩
theorem numP_good {w W : World} {L rg c v : Nat} {A : Option Addr} {bs bs' : List Nat} (hv : v < 4294967296) (R : RdAt W L rg A c bs' false) (F : Fr1 rg w W) (hd : ∃ d, bs = d ++ bs') (h : rdNum bs = some (v, bs')) :
    NumP L rg bs false w (.returned (.int .u32 (v : Nat))) W := ⟨v, A, c, bs', false, rfl, hv, R, F, ⟨fun _ => ⟨rfl, h⟩, fun e _ => e⟩, hd⟩
/-- Where a number's reading stands. -/
def RdS (bs : List Nat) (bad : Bool) (i m : Nat) (bs' : List Nat) : Prop := m < 128 ^ i ∧ (i = 0 ∨ bad = false) ∧ ((i ≤ 4 ∧ rdN i m bs' = rdNum bs) ∨ (i = 5 ∧ rdNum bs = none)) ∧ ∃ d, bs = d ++ bs'
theorem RdS.stop {bs bs' t : List Nat} {bad : Bool} {i m x : Nat} (S : RdS bs bad i m bs') (hb : bs' = x :: t) (h : i = 5 ∨ (0 < i ∧ x = 0) ∨ 4294967296 ≤ m + 128 ^ i * (x % 128)) (hx : x < 256) : rdNum bs = none := by
  obtain ⟨h1, h2, h3 | h3, h4⟩ := S
  · rw [← h3.2, hb]
    unfold rdN
    by_cases h128 : x < 128
    · rw [if_pos h128, if_pos]
      rcases h with h | h | h
      · omega
      · exact .inl ⟨h.2, h.1⟩
      · exact .inr h
    · rw [if_neg h128, if_pos]
      rcases h with h | h | h
      · omega
      · omega
      · have : x % 128 < 128 := Nat.mod_lt _ (by omega)
        rcases (by omega : i = 0 ∨ i = 1 ∨ i = 2 ∨ i = 3 ∨ i = 4) with rfl | rfl | rfl | rfl | rfl <;> simp at h h1 <;> omega
  · exact h3.2
theorem RdS.done {bs bs' t : List Nat} {bad : Bool} {i m x : Nat} (S : RdS bs bad i m bs') (hb : bs' = x :: t) (hi : i ≤ 4) (h1 : ¬ (0 < i ∧ x = 0)) (h2 : m + 128 ^ i * (x % 128) < 4294967296) (hx : x < 128) : rdNum bs = some (m + 128 ^ i * (x % 128), t) := by
  obtain ⟨_, _, h3 | h3, h4⟩ := S
  · rw [← h3.2, hb]
    unfold rdN
    rw [if_pos hx, if_neg (by omega)]
  · omega
theorem RdS.next {bs bs' t : List Nat} {bad : Bool} {i m x : Nat} (S : RdS bs bad i m bs') (hbd : bad = false) (hb : bs' = x :: t) (hi : i ≤ 4) (hx : ¬ x < 128) : RdS bs bad (i + 1) (m + 128 ^ i * (x % 128)) t := by
  obtain ⟨h0, _, h3, d, h4⟩ := S
  have h5 : x % 128 < 128 := Nat.mod_lt _ (by omega)
  have h6 : 128 ^ i * (x % 128) ≤ 128 ^ i * 127 := Nat.mul_le_mul_left _ (by omega)
  refine ⟨by rw [Nat.pow_succ]; omega, .inr hbd, ?_, d ++ [x], by rw [h4, hb]; simp⟩
  rcases h3 with h3 | h3
  · rw [hb] at h3
    obtain ⟨_, h3⟩ := h3
    unfold rdN at h3
    rw [if_neg hx] at h3
    by_cases h4 : 4 ≤ i
    · rw [if_pos h4] at h3
      exact .inr ⟨by omega, h3.symm⟩
    · rw [if_neg h4] at h3
      exact .inl ⟨by omega, h3⟩
  · omega
set_option maxRecDepth 100000 in
set_option maxHeartbeats 8000000 in
theorem rnumberI_any {w : World} {L rg c : Nat} {A : Option Addr} {bs : List Nat} {bad : Bool} (R : RdAt w L rg A c bs bad) (hn : bs.length ≤ 9000000) :
    Calls Tryz.prog 93 #[.pointer (some ⟨rg, 0, none⟩)] w (NumP L rg bs bad w) := by
  have HR := Lib.hid R
  clear R
  go_enter Tryz.func93, Tryz.ntmps93
  go_wp2_with fail
  go_step3
  go_wp2_with fail
  go_step3
  go_wp2_with fail
  go_loopw [3, 4] (fun n s wr => ∃ (i m c' : Nat) (A' : Option Addr) (bs' : List Nat), s = .int .i64 ((7 * i : Nat) : Int) ∧ n = .int .u64 (m : Int) ∧ i ≤ 5 ∧ RdS bs bad i m bs' ∧ RdAt wr L rg A' c' bs' bad ∧ Fr1 rg w wr) (fun _ s _ => 40 - (intOf s).toNat)
  case atStart => exact ⟨0, 0, c, A, bs, rfl, rfl, by omega, ⟨by decide, .inl rfl, .inl ⟨by omega, rfl⟩, [], rfl⟩, HR.out, Fr1.refl _ _⟩
  case round =>
    clear HR
    obtain ⟨i, m, c', A', bs', rfl, rfl, hi, S, R, F⟩ := hrel
    have HS := Lib.hid S
    have HF := Lib.hid F
    have hl' : bs'.length ≤ 9000000 := by obtain ⟨_, _, _, d, h4⟩ := S; rw [h4, List.length_append] at hn; omega
    have hm1 : m < 2 ^ (7 * i) := by rw [Nat.pow_mul]; exact S.1
    have HB := Lib.hid (rbyteI_any R hl')
    clear S F R
    obtain rfl | rfl | rfl | rfl | rfl | rfl : i = 0 ∨ i = 1 ∨ i = 2 ∨ i = 3 ∨ i = 4 ∨ i = 5 := by omega
    · go_wp2_with fail
      refine HB.out.mono ?_
      rintro e w5 ⟨x, A5, c5, bs5, bad5, rfl, hx, R5, F5, D5, d5, hd5⟩
      have HR5 := Lib.hid R5
      have HF5 := Lib.hid (HF.out.trans F5)
      have k1 := R5.box.cell 1
      have z1 := R5.box.frozen 1
      have hsf : ∃ d, bs = d ++ bs5 := by obtain ⟨_, _, _, d, h4⟩ := HS.out; exact ⟨d ++ d5, by rw [h4, hd5, List.append_assoc]⟩
      have HSF := Lib.hid hsf
      have HD := Lib.hid D5
      have hxm : x % 128 < 128 := Nat.mod_lt _ (by omega)
      have hlow := u8_low7 x hx
      have hjn := u64_join 0 m (x % 128) hm1 (by omega) (Nat.lt_of_lt_of_le hm1 (by decide))
      obtain ⟨y, hy⟩ : ∃ y, y = x % 128 := ⟨_, rfl⟩
      obtain ⟨N, hN⟩ : ∃ N, N = m + 128 ^ 0 * (x % 128) := ⟨_, rfl⟩
      have hNlt : N < 128 ^ 0 * 128 := by
        have h6 : 128 ^ 0 * (x % 128) ≤ 128 ^ 0 * 127 := Nat.mul_le_mul_left _ (by omega)
        have h7 : m < 128 ^ 0 := HS.out.1
        omega
      have HN := Lib.hid hN
      rw [← hy] at hlow hxm hjn hN
      have hjN : bits .or .u64 (m : Int) ((y : Int)) = (N : Int) := by
        rw [hN]
        have h0 : m = 0 := by simpa using hm1
        subst h0
        simpa using hjn
      simp only [Nat.reducePow, Nat.reduceMul] at hNlt
      clear R5 F5 hsf HB D5 hd5 hN hjn hm1 hy
      cases bad5 with
      | true =>
        have HF := Lib.hid (numP_bad HR5.out HF5.out HSF.out (show bad = true ∨ rdNum bs = none from by
          by_cases hb : bad = true
          · exact .inl hb
          · have hb' : bad = false := by simpa using hb
            obtain ⟨_, h2⟩ := HD.out
            have h3 : ∀ p, rdB bs' ≠ some p := fun p hp => by have := h2 hb' ⟨p, hp⟩; cases this
            obtain ⟨h4, h5, h6 | h6, h7⟩ := HS.out
            · cases bs' with
              | nil => rw [← h6.2]; exact .inr rfl
              | cons a t => exact absurd rfl (h3 (a, t))
            · exact .inr h6.2))
        clear HD HS HN HF5 HR5
        go_wp2_with fail
        rw [Exit.noGoto_ret]
        go_ret
        exact HF.out
      | false =>
        obtain ⟨hbad, hrd⟩ := HD.out.1 rfl
        have hbs : bs' = x :: bs5 := by
          cases bs' with
          | nil => cases hrd
          | cons a t => injection hrd with h; injection h with h1 h2; rw [h1, h2]
        have HBS := Lib.hid hbs
        have HBAD := Lib.hid hbad
        clear hbs hbad hrd HD
        have hge : ¬ 4294967296 ≤ N := by omega
        have hg : decide (4294967296 ≤ (N : Int)) = false := by simp; omega
        by_cases h128 : x < 128
        · have hl : decide ((x : Int) < 128) = true := by simp; omega
          have HF := Lib.hid (numP_good (v := N) (by omega) HR5.out HF5.out HSF.out (by rw [HS.out.done HBS.out (by omega) (by omega) (by rw [← HN.out]; omega) h128, ← HN.out]))
          have HBD := Lib.hid HBAD.out
          clear HS HN HF5 HR5 HBS
          go_wp2_with fail
          try rw [Exit.noGoto_ret]
          go_ret
          have hw : (N : Int) % 4294967296 = (N : Int) := by omega
          subst_vars
          first | exact HF.out | (rw [HBAD.out]; exact HF.out)
        · have hl : decide ((x : Int) < 128) = false := by simp; omega
          have HNX := Lib.hid (HS.out.next HBAD.out HBS.out (by omega) h128)
          clear HS HBS
          go_wp2_with fail
          go_roundw
          case rel => exact ⟨0 + 1, N, c5, A5, bs5, by go_num, rfl, by omega, by rw [HN.out]; exact HNX.out, by rw [HBAD.out]; exact HR5.out, HF5.out⟩
          case measure => simp [intOf]
    · go_wp2_with fail
      refine HB.out.mono ?_
      rintro e w5 ⟨x, A5, c5, bs5, bad5, rfl, hx, R5, F5, D5, d5, hd5⟩
      have HR5 := Lib.hid R5
      have HF5 := Lib.hid (HF.out.trans F5)
      have k1 := R5.box.cell 1
      have z1 := R5.box.frozen 1
      have hsf : ∃ d, bs = d ++ bs5 := by obtain ⟨_, _, _, d, h4⟩ := HS.out; exact ⟨d ++ d5, by rw [h4, hd5, List.append_assoc]⟩
      have HSF := Lib.hid hsf
      have HD := Lib.hid D5
      have hxm : x % 128 < 128 := Nat.mod_lt _ (by omega)
      have hlow := u8_low7 x hx
      have hjn := u64_join 7 m (x % 128) hm1 (by omega) (Nat.lt_of_lt_of_le hm1 (by decide))
      obtain ⟨y, hy⟩ : ∃ y, y = x % 128 := ⟨_, rfl⟩
      obtain ⟨N, hN⟩ : ∃ N, N = m + 128 ^ 1 * (x % 128) := ⟨_, rfl⟩
      have hNlt : N < 128 ^ 1 * 128 := by
        have h6 : 128 ^ 1 * (x % 128) ≤ 128 ^ 1 * 127 := Nat.mul_le_mul_left _ (by omega)
        have h7 : m < 128 ^ 1 := HS.out.1
        omega
      have HN := Lib.hid hN
      rw [← hy] at hlow hxm hjn hN
      have hjN : bits .or .u64 (m : Int) ((y : Int) * 128) = (N : Int) := by
        rw [hN]
        simpa [Nat.mul_comm] using hjn
      simp only [Nat.reducePow, Nat.reduceMul] at hNlt
      clear R5 F5 hsf HB D5 hd5 hN hjn hm1 hy
      cases bad5 with
      | true =>
        have HF := Lib.hid (numP_bad HR5.out HF5.out HSF.out (show bad = true ∨ rdNum bs = none from by
          by_cases hb : bad = true
          · exact .inl hb
          · have hb' : bad = false := by simpa using hb
            obtain ⟨_, h2⟩ := HD.out
            have h3 : ∀ p, rdB bs' ≠ some p := fun p hp => by have := h2 hb' ⟨p, hp⟩; cases this
            obtain ⟨h4, h5, h6 | h6, h7⟩ := HS.out
            · cases bs' with
              | nil => rw [← h6.2]; exact .inr rfl
              | cons a t => exact absurd rfl (h3 (a, t))
            · exact .inr h6.2))
        clear HD HS HN HF5 HR5
        go_wp2_with fail
        rw [Exit.noGoto_ret]
        go_ret
        exact HF.out
      | false =>
        obtain ⟨hbad, hrd⟩ := HD.out.1 rfl
        have hbs : bs' = x :: bs5 := by
          cases bs' with
          | nil => cases hrd
          | cons a t => injection hrd with h; injection h with h1 h2; rw [h1, h2]
        have HBS := Lib.hid hbs
        have HBAD := Lib.hid hbad
        clear hbs hbad hrd HD
        by_cases hx0 : x = 0
        · have hz : ((x : Int) == 0) = true := by simp; omega
          have HF := Lib.hid (numP_bad HR5.out HF5.out HSF.out (show bad = true ∨ rdNum bs = none from .inr (HS.out.stop HBS.out (.inr (.inl ⟨by omega, hx0⟩)) hx)))
          clear HS HN HF5 HR5 HBS
          clear hx0
          go_wp2_with fail
          rw [Exit.noGoto_ret]
          go_ret
          exact HF.out
        · have hz : ((x : Int) == 0) = false := by simp; omega
          have hge : ¬ 4294967296 ≤ N := by omega
          have hg : decide (4294967296 ≤ (N : Int)) = false := by simp; omega
          by_cases h128 : x < 128
          · have hl : decide ((x : Int) < 128) = true := by simp; omega
            have HF := Lib.hid (numP_good (v := N) (by omega) HR5.out HF5.out HSF.out (by rw [HS.out.done HBS.out (by omega) (by omega) (by rw [← HN.out]; omega) h128, ← HN.out]))
            have HBD := Lib.hid HBAD.out
            clear HS HN HF5 HR5 HBS
            go_wp2_with fail
            try rw [Exit.noGoto_ret]
            go_ret
            have hw : (N : Int) % 4294967296 = (N : Int) := by omega
            subst_vars
            first | exact HF.out | (rw [HBAD.out]; exact HF.out)
          · have hl : decide ((x : Int) < 128) = false := by simp; omega
            have HNX := Lib.hid (HS.out.next HBAD.out HBS.out (by omega) h128)
            clear HS HBS
            go_wp2_with fail
            go_roundw
            case rel => exact ⟨1 + 1, N, c5, A5, bs5, by go_num, rfl, by omega, by rw [HN.out]; exact HNX.out, by rw [HBAD.out]; exact HR5.out, HF5.out⟩
            case measure => simp [intOf]
    · go_wp2_with fail
      refine HB.out.mono ?_
      rintro e w5 ⟨x, A5, c5, bs5, bad5, rfl, hx, R5, F5, D5, d5, hd5⟩
      have HR5 := Lib.hid R5
      have HF5 := Lib.hid (HF.out.trans F5)
      have k1 := R5.box.cell 1
      have z1 := R5.box.frozen 1
      have hsf : ∃ d, bs = d ++ bs5 := by obtain ⟨_, _, _, d, h4⟩ := HS.out; exact ⟨d ++ d5, by rw [h4, hd5, List.append_assoc]⟩
      have HSF := Lib.hid hsf
      have HD := Lib.hid D5
      have hxm : x % 128 < 128 := Nat.mod_lt _ (by omega)
      have hlow := u8_low7 x hx
      have hjn := u64_join 14 m (x % 128) hm1 (by omega) (Nat.lt_of_lt_of_le hm1 (by decide))
      obtain ⟨y, hy⟩ : ∃ y, y = x % 128 := ⟨_, rfl⟩
      obtain ⟨N, hN⟩ : ∃ N, N = m + 128 ^ 2 * (x % 128) := ⟨_, rfl⟩
      have hNlt : N < 128 ^ 2 * 128 := by
        have h6 : 128 ^ 2 * (x % 128) ≤ 128 ^ 2 * 127 := Nat.mul_le_mul_left _ (by omega)
        have h7 : m < 128 ^ 2 := HS.out.1
        omega
      have HN := Lib.hid hN
      rw [← hy] at hlow hxm hjn hN
      have hjN : bits .or .u64 (m : Int) ((y : Int) * 16384) = (N : Int) := by
        rw [hN]
        simpa [Nat.mul_comm] using hjn
      simp only [Nat.reducePow, Nat.reduceMul] at hNlt
      clear R5 F5 hsf HB D5 hd5 hN hjn hm1 hy
      cases bad5 with
      | true =>
        have HF := Lib.hid (numP_bad HR5.out HF5.out HSF.out (show bad = true ∨ rdNum bs = none from by
          by_cases hb : bad = true
          · exact .inl hb
          · have hb' : bad = false := by simpa using hb
            obtain ⟨_, h2⟩ := HD.out
            have h3 : ∀ p, rdB bs' ≠ some p := fun p hp => by have := h2 hb' ⟨p, hp⟩; cases this
            obtain ⟨h4, h5, h6 | h6, h7⟩ := HS.out
            · cases bs' with
              | nil => rw [← h6.2]; exact .inr rfl
              | cons a t => exact absurd rfl (h3 (a, t))
            · exact .inr h6.2))
        clear HD HS HN HF5 HR5
        go_wp2_with fail
        rw [Exit.noGoto_ret]
        go_ret
        exact HF.out
      | false =>
        obtain ⟨hbad, hrd⟩ := HD.out.1 rfl
        have hbs : bs' = x :: bs5 := by
          cases bs' with
          | nil => cases hrd
          | cons a t => injection hrd with h; injection h with h1 h2; rw [h1, h2]
        have HBS := Lib.hid hbs
        have HBAD := Lib.hid hbad
        clear hbs hbad hrd HD
        by_cases hx0 : x = 0
        · have hz : ((x : Int) == 0) = true := by simp; omega
          have HF := Lib.hid (numP_bad HR5.out HF5.out HSF.out (show bad = true ∨ rdNum bs = none from .inr (HS.out.stop HBS.out (.inr (.inl ⟨by omega, hx0⟩)) hx)))
          clear HS HN HF5 HR5 HBS
          clear hx0
          go_wp2_with fail
          rw [Exit.noGoto_ret]
          go_ret
          exact HF.out
        · have hz : ((x : Int) == 0) = false := by simp; omega
          have hge : ¬ 4294967296 ≤ N := by omega
          have hg : decide (4294967296 ≤ (N : Int)) = false := by simp; omega
          by_cases h128 : x < 128
          · have hl : decide ((x : Int) < 128) = true := by simp; omega
            have HF := Lib.hid (numP_good (v := N) (by omega) HR5.out HF5.out HSF.out (by rw [HS.out.done HBS.out (by omega) (by omega) (by rw [← HN.out]; omega) h128, ← HN.out]))
            have HBD := Lib.hid HBAD.out
            clear HS HN HF5 HR5 HBS
            go_wp2_with fail
            try rw [Exit.noGoto_ret]
            go_ret
            have hw : (N : Int) % 4294967296 = (N : Int) := by omega
            subst_vars
            first | exact HF.out | (rw [HBAD.out]; exact HF.out)
          · have hl : decide ((x : Int) < 128) = false := by simp; omega
            have HNX := Lib.hid (HS.out.next HBAD.out HBS.out (by omega) h128)
            clear HS HBS
            go_wp2_with fail
            go_roundw
            case rel => exact ⟨2 + 1, N, c5, A5, bs5, by go_num, rfl, by omega, by rw [HN.out]; exact HNX.out, by rw [HBAD.out]; exact HR5.out, HF5.out⟩
            case measure => simp [intOf]
    · go_wp2_with fail
      refine HB.out.mono ?_
      rintro e w5 ⟨x, A5, c5, bs5, bad5, rfl, hx, R5, F5, D5, d5, hd5⟩
      have HR5 := Lib.hid R5
      have HF5 := Lib.hid (HF.out.trans F5)
      have k1 := R5.box.cell 1
      have z1 := R5.box.frozen 1
      have hsf : ∃ d, bs = d ++ bs5 := by obtain ⟨_, _, _, d, h4⟩ := HS.out; exact ⟨d ++ d5, by rw [h4, hd5, List.append_assoc]⟩
      have HSF := Lib.hid hsf
      have HD := Lib.hid D5
      have hxm : x % 128 < 128 := Nat.mod_lt _ (by omega)
      have hlow := u8_low7 x hx
      have hjn := u64_join 21 m (x % 128) hm1 (by omega) (Nat.lt_of_lt_of_le hm1 (by decide))
      obtain ⟨y, hy⟩ : ∃ y, y = x % 128 := ⟨_, rfl⟩
      obtain ⟨N, hN⟩ : ∃ N, N = m + 128 ^ 3 * (x % 128) := ⟨_, rfl⟩
      have hNlt : N < 128 ^ 3 * 128 := by
        have h6 : 128 ^ 3 * (x % 128) ≤ 128 ^ 3 * 127 := Nat.mul_le_mul_left _ (by omega)
        have h7 : m < 128 ^ 3 := HS.out.1
        omega
      have HN := Lib.hid hN
      rw [← hy] at hlow hxm hjn hN
      have hjN : bits .or .u64 (m : Int) ((y : Int) * 2097152) = (N : Int) := by
        rw [hN]
        simpa [Nat.mul_comm] using hjn
      simp only [Nat.reducePow, Nat.reduceMul] at hNlt
      clear R5 F5 hsf HB D5 hd5 hN hjn hm1 hy
      cases bad5 with
      | true =>
        have HF := Lib.hid (numP_bad HR5.out HF5.out HSF.out (show bad = true ∨ rdNum bs = none from by
          by_cases hb : bad = true
          · exact .inl hb
          · have hb' : bad = false := by simpa using hb
            obtain ⟨_, h2⟩ := HD.out
            have h3 : ∀ p, rdB bs' ≠ some p := fun p hp => by have := h2 hb' ⟨p, hp⟩; cases this
            obtain ⟨h4, h5, h6 | h6, h7⟩ := HS.out
            · cases bs' with
              | nil => rw [← h6.2]; exact .inr rfl
              | cons a t => exact absurd rfl (h3 (a, t))
            · exact .inr h6.2))
        clear HD HS HN HF5 HR5
        go_wp2_with fail
        rw [Exit.noGoto_ret]
        go_ret
        exact HF.out
      | false =>
        obtain ⟨hbad, hrd⟩ := HD.out.1 rfl
        have hbs : bs' = x :: bs5 := by
          cases bs' with
          | nil => cases hrd
          | cons a t => injection hrd with h; injection h with h1 h2; rw [h1, h2]
        have HBS := Lib.hid hbs
        have HBAD := Lib.hid hbad
        clear hbs hbad hrd HD
        by_cases hx0 : x = 0
        · have hz : ((x : Int) == 0) = true := by simp; omega
          have HF := Lib.hid (numP_bad HR5.out HF5.out HSF.out (show bad = true ∨ rdNum bs = none from .inr (HS.out.stop HBS.out (.inr (.inl ⟨by omega, hx0⟩)) hx)))
          clear HS HN HF5 HR5 HBS
          clear hx0
          go_wp2_with fail
          rw [Exit.noGoto_ret]
          go_ret
          exact HF.out
        · have hz : ((x : Int) == 0) = false := by simp; omega
          have hge : ¬ 4294967296 ≤ N := by omega
          have hg : decide (4294967296 ≤ (N : Int)) = false := by simp; omega
          by_cases h128 : x < 128
          · have hl : decide ((x : Int) < 128) = true := by simp; omega
            have HF := Lib.hid (numP_good (v := N) (by omega) HR5.out HF5.out HSF.out (by rw [HS.out.done HBS.out (by omega) (by omega) (by rw [← HN.out]; omega) h128, ← HN.out]))
            have HBD := Lib.hid HBAD.out
            clear HS HN HF5 HR5 HBS
            go_wp2_with fail
            try rw [Exit.noGoto_ret]
            go_ret
            have hw : (N : Int) % 4294967296 = (N : Int) := by omega
            subst_vars
            first | exact HF.out | (rw [HBAD.out]; exact HF.out)
          · have hl : decide ((x : Int) < 128) = false := by simp; omega
            have HNX := Lib.hid (HS.out.next HBAD.out HBS.out (by omega) h128)
            clear HS HBS
            go_wp2_with fail
            go_roundw
            case rel => exact ⟨3 + 1, N, c5, A5, bs5, by go_num, rfl, by omega, by rw [HN.out]; exact HNX.out, by rw [HBAD.out]; exact HR5.out, HF5.out⟩
            case measure => simp [intOf]
    · go_wp2_with fail
      refine HB.out.mono ?_
      rintro e w5 ⟨x, A5, c5, bs5, bad5, rfl, hx, R5, F5, D5, d5, hd5⟩
      have HR5 := Lib.hid R5
      have HF5 := Lib.hid (HF.out.trans F5)
      have k1 := R5.box.cell 1
      have z1 := R5.box.frozen 1
      have hsf : ∃ d, bs = d ++ bs5 := by obtain ⟨_, _, _, d, h4⟩ := HS.out; exact ⟨d ++ d5, by rw [h4, hd5, List.append_assoc]⟩
      have HSF := Lib.hid hsf
      have HD := Lib.hid D5
      have hxm : x % 128 < 128 := Nat.mod_lt _ (by omega)
      have hlow := u8_low7 x hx
      have hjn := u64_join 28 m (x % 128) hm1 (by omega) (Nat.lt_of_lt_of_le hm1 (by decide))
      obtain ⟨y, hy⟩ : ∃ y, y = x % 128 := ⟨_, rfl⟩
      obtain ⟨N, hN⟩ : ∃ N, N = m + 128 ^ 4 * (x % 128) := ⟨_, rfl⟩
      have hNlt : N < 128 ^ 4 * 128 := by
        have h6 : 128 ^ 4 * (x % 128) ≤ 128 ^ 4 * 127 := Nat.mul_le_mul_left _ (by omega)
        have h7 : m < 128 ^ 4 := HS.out.1
        omega
      have HN := Lib.hid hN
      rw [← hy] at hlow hxm hjn hN
      have hjN : bits .or .u64 (m : Int) ((y : Int) * 268435456) = (N : Int) := by
        rw [hN]
        simpa [Nat.mul_comm] using hjn
      simp only [Nat.reducePow, Nat.reduceMul] at hNlt
      clear R5 F5 hsf HB D5 hd5 hN hjn hm1 hy
      cases bad5 with
      | true =>
        have HF := Lib.hid (numP_bad HR5.out HF5.out HSF.out (show bad = true ∨ rdNum bs = none from by
          by_cases hb : bad = true
          · exact .inl hb
          · have hb' : bad = false := by simpa using hb
            obtain ⟨_, h2⟩ := HD.out
            have h3 : ∀ p, rdB bs' ≠ some p := fun p hp => by have := h2 hb' ⟨p, hp⟩; cases this
            obtain ⟨h4, h5, h6 | h6, h7⟩ := HS.out
            · cases bs' with
              | nil => rw [← h6.2]; exact .inr rfl
              | cons a t => exact absurd rfl (h3 (a, t))
            · exact .inr h6.2))
        clear HD HS HN HF5 HR5
        go_wp2_with fail
        rw [Exit.noGoto_ret]
        go_ret
        exact HF.out
      | false =>
        obtain ⟨hbad, hrd⟩ := HD.out.1 rfl
        have hbs : bs' = x :: bs5 := by
          cases bs' with
          | nil => cases hrd
          | cons a t => injection hrd with h; injection h with h1 h2; rw [h1, h2]
        have HBS := Lib.hid hbs
        have HBAD := Lib.hid hbad
        clear hbs hbad hrd HD
        by_cases hx0 : x = 0
        · have hz : ((x : Int) == 0) = true := by simp; omega
          have HF := Lib.hid (numP_bad HR5.out HF5.out HSF.out (show bad = true ∨ rdNum bs = none from .inr (HS.out.stop HBS.out (.inr (.inl ⟨by omega, hx0⟩)) hx)))
          clear HS HN HF5 HR5 HBS
          clear hx0
          go_wp2_with fail
          rw [Exit.noGoto_ret]
          go_ret
          exact HF.out
        · have hz : ((x : Int) == 0) = false := by simp; omega
          by_cases hge : 4294967296 ≤ N
          · have hg : decide (4294967296 ≤ (N : Int)) = true := by simp; omega
            have HF := Lib.hid (numP_bad HR5.out HF5.out HSF.out (show bad = true ∨ rdNum bs = none from .inr (HS.out.stop HBS.out (.inr (.inr (by rw [← HN.out]; exact hge))) hx)))
            clear HS HN HF5 HR5 HBS
            go_wp2_with fail
            rw [Exit.noGoto_ret]
            go_ret
            exact HF.out
          · have hg : decide (4294967296 ≤ (N : Int)) = false := by simp; omega
            by_cases h128 : x < 128
            · have hl : decide ((x : Int) < 128) = true := by simp; omega
              have HF := Lib.hid (numP_good (v := N) (by omega) HR5.out HF5.out HSF.out (by rw [HS.out.done HBS.out (by omega) (by omega) (by rw [← HN.out]; omega) h128, ← HN.out]))
              have HBD := Lib.hid HBAD.out
              clear HS HN HF5 HR5 HBS
              go_wp2_with fail
              try rw [Exit.noGoto_ret]
              go_ret
              have hw : (N : Int) % 4294967296 = (N : Int) := by omega
              subst_vars
              first | exact HF.out | (rw [HBAD.out]; exact HF.out)
            · have hl : decide ((x : Int) < 128) = false := by simp; omega
              have HNX := Lib.hid (HS.out.next HBAD.out HBS.out (by omega) h128)
              clear HS HBS
              go_wp2_with fail
              go_roundw
              case rel => exact ⟨4 + 1, N, c5, A5, bs5, by go_num, rfl, by omega, by rw [HN.out]; exact HNX.out, by rw [HBAD.out]; exact HR5.out, HF5.out⟩
              case measure => simp [intOf]
    · go_wp2_with fail
      refine HB.out.mono ?_
      rintro e w5 ⟨x, A5, c5, bs5, bad5, rfl, hx, R5, F5, D5, d5, hd5⟩
      have HR5 := Lib.hid R5
      have HF5 := Lib.hid (HF.out.trans F5)
      have k1 := R5.box.cell 1
      have z1 := R5.box.frozen 1
      have hsf : ∃ d, bs = d ++ bs5 := by obtain ⟨_, _, _, d, h4⟩ := HS.out; exact ⟨d ++ d5, by rw [h4, hd5, List.append_assoc]⟩
      have HSF := Lib.hid hsf
      have HD := Lib.hid D5
      have hxm : x % 128 < 128 := Nat.mod_lt _ (by omega)
      have hlow := u8_low7 x hx
      have hjn := u64_join 35 m (x % 128) hm1 (by omega) (Nat.lt_of_lt_of_le hm1 (by decide))
      obtain ⟨y, hy⟩ : ∃ y, y = x % 128 := ⟨_, rfl⟩
      obtain ⟨N, hN⟩ : ∃ N, N = m + 128 ^ 5 * (x % 128) := ⟨_, rfl⟩
      have hNlt : N < 128 ^ 5 * 128 := by
        have h6 : 128 ^ 5 * (x % 128) ≤ 128 ^ 5 * 127 := Nat.mul_le_mul_left _ (by omega)
        have h7 : m < 128 ^ 5 := HS.out.1
        omega
      have HN := Lib.hid hN
      rw [← hy] at hlow hxm hjn hN
      have hjN : bits .or .u64 (m : Int) ((y : Int) * 34359738368) = (N : Int) := by
        rw [hN]
        simpa [Nat.mul_comm] using hjn
      simp only [Nat.reducePow, Nat.reduceMul] at hNlt
      clear R5 F5 hsf HB D5 hd5 hN hjn hm1 hy
      cases bad5 with
      | true =>
        have HF := Lib.hid (numP_bad HR5.out HF5.out HSF.out (show bad = true ∨ rdNum bs = none from by
          by_cases hb : bad = true
          · exact .inl hb
          · have hb' : bad = false := by simpa using hb
            obtain ⟨_, h2⟩ := HD.out
            have h3 : ∀ p, rdB bs' ≠ some p := fun p hp => by have := h2 hb' ⟨p, hp⟩; cases this
            obtain ⟨h4, h5, h6 | h6, h7⟩ := HS.out
            · cases bs' with
              | nil => rw [← h6.2]; exact .inr rfl
              | cons a t => exact absurd rfl (h3 (a, t))
            · exact .inr h6.2))
        clear HD HS HN HF5 HR5
        go_wp2_with fail
        rw [Exit.noGoto_ret]
        go_ret
        exact HF.out
      | false =>
        obtain ⟨hbad, hrd⟩ := HD.out.1 rfl
        have hbs : bs' = x :: bs5 := by
          cases bs' with
          | nil => cases hrd
          | cons a t => injection hrd with h; injection h with h1 h2; rw [h1, h2]
        have HBS := Lib.hid hbs
        have HBAD := Lib.hid hbad
        clear hbs hbad hrd HD
        have HF := Lib.hid (numP_bad HR5.out HF5.out HSF.out (show bad = true ∨ rdNum bs = none from .inr (HS.out.stop HBS.out (.inl rfl) hx)))
        clear HS HN HF5 HR5 HBS
        go_wp2_with fail
        rw [Exit.noGoto_ret]
        go_ret
        exact HF.out
end Go.Proofs.YtfpleoblehfhbaaGreatDoor
