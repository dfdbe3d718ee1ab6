/- The first difference: turned round it is the same; no difference is reflexive and transitive. Plain data. -/
/- The walk of a graph as a sequence of lists; no difference is likeness by the numbers of the whole graphs. Plain data. -/
import Derived.Test.YtpajpdjjpgbklaaDoorJOop
set_option linter.unusedVariables false
set_option linter.unusedSectionVars false
namespace Go.Proofs.YtpajpdjjpgbklaaDoor

theorem pairK_swap (l m : List Nd) (v u : Nat) : pairK m l u v = pairK l m v u := by
  unfold pairK
  by_cases h : kindM v = kindM u
  · simp only [h, ne_eq, not_true_eq_false, if_false]
    by_cases h0 : kindM u = 0
    · simp only [h0, if_true]
    · by_cases h1 : kindM u = 1
      · simp only [h1]
        by_cases e : v = u
        · subst e; rfl
        · have e' : ¬ u = v := fun h => e h.symm
          simp [e, e']
      · simp only [h0, h1, if_false]
        by_cases e : numF l v = numF m u
        · rw [if_pos e, if_pos e.symm]
        · rw [if_neg e, if_neg (fun h => e h.symm)]
  · rw [if_pos (fun e => h e.symm), if_pos h]
def Two2.swap : Two2 → Two2
  | .on l m => .on m l
  | .off d => .off d
theorem beginD_swap {a b : List Nat} : ∀ k, beginD b a k = (beginD a b k).swap
  | 0 => rfl
  | k + 1 => by
    unfold beginD
    rw [beginD_swap k]
    cases beginD a b k with
    | off d => rfl
    | on l m =>
      simp only [Two2.swap, pairK_swap l m]
      split <;> rfl
section
variable {nN nN' : Nat → Nat} {nA nB nC : Nat → Nat → Nat} {od od' od2 od3 : Nat → Nat → Option (Nat × Nat)}
theorem namesD_swap {l m : List Nd} (S : Side l m) {i : Nat} (hi : i < l.length) : ∀ k, namesD nB nA m l i k = (namesD nA nB l m i k).swap
  | 0 => rfl
  | k + 1 => by
    unfold namesD
    rw [namesD_swap S hi k]
    cases namesD nA nB l m i k with
    | off d => rfl
    | on l' m' =>
      simp only [Two2.swap, pairK_swap l' m', pathM_side S hi]
      split <;> rfl
theorem roundD_swap (hod : ∀ o q, od' q o = od o q) (hn : ∀ o q, od o q = none → nN' q = nN o) {l m : List Nd} (S : Side l m) {i : Nat} (hi : i < l.length) :
    roundD nN' nB nA od' m l i = (roundD nN nA nB od l m i).swap := by
  unfold roundD
  rw [hod]
  cases h : od (oAt l i) (oAt m i) with
  | some x => simp only [Two2.swap, pathM_side S hi]
  | none => simp only [hn _ _ h]; exact namesD_swap S hi _
theorem roundD_side {l m l' m' : List Nd} (S : Side l m) {i : Nat} (hi : i < l.length) (h : roundD nN nA nB od l m i = .on l' m') : Side l' m' ∧ l <+: l' ∧ m <+: m' := by
  unfold roundD at h
  split at h
  · cases h
  · exact namesD_side S hi h
theorem loopD_swap (hod : ∀ o q, od' q o = od o q) (hn : ∀ o q, od o q = none → nN' q = nN o) : ∀ (f i : Nat) {l m : List Nd}, Side l m → loopD nN' nB nA od' f i m l = loopD nN nA nB od f i l m
  | 0, _, _, _, _ => rfl
  | f + 1, i, l, m, S => by
    unfold loopD
    rw [S.len]
    split
    · rename_i hi
      rw [roundD_swap hod hn S hi]
      cases h : roundD nN nA nB od l m i with
      | off d => rfl
      | on l' m' => exact loopD_swap hod hn f (i + 1) (roundD_side S hi h).1
    · rfl
/-- Turned round: the same difference. -/
theorem diffD_swap (hod : ∀ o q, od' q o = od o q) (hn : ∀ o q, od o q = none → nN' q = nN o) {a b : List Nat} (hab : b.length = a.length) : diffD nN' nB nA od' b a = diffD nN nA nB od a b := by
  unfold diffD
  rw [hab, beginD_swap]
  cases h : beginD a b a.length with
  | off d => rfl
  | on l m => exact loopD_swap hod hn _ _ (beginD_side h)

/-- No difference. -/
def loopOn (nN : Nat → Nat) (nA nB : Nat → Nat → Nat) (od : Nat → Nat → Option (Nat × Nat)) : Nat → Nat → List Nd → List Nd → Prop
  | 0, _, _, _ => True
  | f + 1, i, l, m => i < l.length → ∃ l' m', roundD nN nA nB od l m i = .on l' m' ∧ loopOn nN nA nB od f (i + 1) l' m'
def onD (nN : Nat → Nat) (nA nB : Nat → Nat → Nat) (od : Nat → Nat → Option (Nat × Nat)) (a b : List Nat) : Prop := ∃ l m, beginD a b a.length = .on l m ∧ loopOn nN nA nB od fuelD 0 l m
theorem beginD_kind {a b : List Nat} : ∀ {k : Nat} {d : Df}, beginD a b k = .off d → d.kind ≠ 0
  | 0, d, h => by cases h
  | k + 1, d, h => by
    unfold beginD at h
    cases hb : beginD a b k with
    | off d' => rw [hb] at h; injection h with h; subst h; exact beginD_kind hb
    | on l m =>
      rw [hb] at h
      simp only at h
      split at h
      · cases h
      · rename_i hp; injection h with h; subst h; exact hp
theorem namesD_kind {l m : List Nd} {i : Nat} : ∀ {k : Nat} {d : Df}, namesD nA nB l m i k = .off d → d.kind ≠ 0
  | 0, d, h => by cases h
  | k + 1, d, h => by
    unfold namesD at h
    cases hb : namesD nA nB l m i k with
    | off d' => rw [hb] at h; injection h with h; subst h; exact namesD_kind hb
    | on l' m' =>
      rw [hb] at h
      simp only at h
      split at h
      · cases h
      · rename_i hp; injection h with h; subst h; exact hp
theorem roundD_kind (h0 : ∀ o q k x, od o q = some (k, x) → k ≠ 0) {l m : List Nd} {i : Nat} {d : Df} (h : roundD nN nA nB od l m i = .off d) : d.kind ≠ 0 := by
  unfold roundD at h
  cases ho : od (oAt l i) (oAt m i) with
  | some x => rw [ho] at h; injection h with h; subst h; exact h0 _ _ _ _ ho
  | none => rw [ho] at h; exact namesD_kind h
theorem loopD_kind (h0 : ∀ o q k x, od o q = some (k, x) → k ≠ 0) : ∀ (f i : Nat) (l m : List Nd), (loopD nN nA nB od f i l m).kind = 0 ↔ loopOn nN nA nB od f i l m
  | 0, _, _, _ => by simp [loopD, loopOn]
  | f + 1, i, l, m => by
    unfold loopD loopOn
    split
    · rename_i hi
      cases h : roundD nN nA nB od l m i with
      | off d =>
        simp only [hi, forall_const]
        constructor
        · intro e; exact absurd e (roundD_kind h0 h)
        · rintro ⟨l', m', e, _⟩; cases e
      | on l' m' =>
        simp only [hi, forall_const, loopD_kind h0 f]
        constructor
        · intro e; exact ⟨l', m', rfl, e⟩
        · rintro ⟨l2, m2, e, h2⟩; injection e with e1 e2; subst e1; subst e2; exact h2
    · rename_i hi; simp [hi]
theorem diffD_kind (h0 : ∀ o q k x, od o q = some (k, x) → k ≠ 0) (a b : List Nat) : (diffD nN nA nB od a b).kind = 0 ↔ onD nN nA nB od a b := by
  unfold diffD onD
  cases h : beginD a b a.length with
  | off d =>
    constructor
    · intro e; exact absurd e (beginD_kind h)
    · rintro ⟨l, m, e, _⟩; cases e
  | on l m =>
    simp only [loopD_kind h0]
    constructor
    · intro e; exact ⟨l, m, rfl, e⟩
    · rintro ⟨l2, m2, e, h2⟩; injection e with e1 e2; subst e1; subst e2; exact h2

/-- Reflexive. -/
theorem pairK_self (l : List Nd) (v : Nat) : pairK l l v v = 0 := pairK_zero.2 ⟨rfl, fun _ => rfl, fun _ => rfl⟩
theorem beginD_self (a : List Nat) : ∀ k, ∃ l, beginD a a k = .on l l
  | 0 => ⟨[], rfl⟩
  | k + 1 => by obtain ⟨l, h⟩ := beginD_self a k; exact ⟨_, beginD_on h (pairK_self _ _)⟩
theorem namesD_self (l : List Nd) (i : Nat) : ∀ k, ∃ l', namesD nA nA l l i k = .on l' l'
  | 0 => ⟨l, rfl⟩
  | k + 1 => by obtain ⟨l', h⟩ := namesD_self l i k; exact ⟨_, namesD_on h (pairK_self _ _)⟩
theorem loopOn_self (hr : ∀ o, od o o = none) : ∀ (f i : Nat) (l : List Nd), loopOn nN nA nA od f i l l
  | 0, _, _ => trivial
  | f + 1, i, l => fun hi => by
    obtain ⟨l', h⟩ := namesD_self (nA := nA) l i (nN (oAt l i))
    exact ⟨l', l', by unfold roundD; rw [hr]; exact h, loopOn_self hr f (i + 1) l'⟩
theorem onD_self (hr : ∀ o, od o o = none) (a : List Nat) : onD nN nA nA od a a := by
  obtain ⟨l, h⟩ := beginD_self a a.length
  exact ⟨l, l, h, loopOn_self hr _ _ _⟩
/-- Transitive. -/
theorem pairK_trans {l m x : List Nd} {v u t : Nat} (h1 : pairK l m v u = 0) (h2 : pairK m x u t = 0) : pairK l x v t = 0 := by
  obtain ⟨a1, a2, a3⟩ := pairK_zero.1 h1
  obtain ⟨b1, b2, b3⟩ := pairK_zero.1 h2
  exact pairK_zero.2 ⟨a1.trans b1, fun h => (a2 h).trans (b2 (a1 ▸ h)), fun h => (a3 h).trans (b3 (a1 ▸ h))⟩
theorem beginD_trans {a b c : List Nat} : ∀ {k : Nat} {l m m2 x : List Nd}, beginD a b k = .on l m → beginD b c k = .on m2 x → m2 = m ∧ beginD a c k = .on l x
  | 0, l, m, m2, x, h1, h2 => by
    unfold beginD at h1 h2 ⊢
    injection h1 with e1 e2; injection h2 with e3 e4
    subst e1; subst e2; subst e3; subst e4
    exact ⟨rfl, rfl⟩
  | k + 1, l, m, m2, x, h1, h2 => by
    unfold beginD at h1 h2
    cases hb : beginD a b k with
    | off d => rw [hb] at h1; cases h1
    | on l' m' =>
      cases hc : beginD b c k with
      | off d => rw [hc] at h2; cases h2
      | on m3 x' =>
        obtain ⟨rfl, hac⟩ := beginD_trans hb hc
        rw [hb] at h1; rw [hc] at h2
        simp only at h1 h2
        split at h1
        · rename_i p1
          split at h2
          · rename_i p2
            injection h1 with e1 e2; injection h2 with e3 e4
            subst e1; subst e2; subst e3; subst e4
            exact ⟨rfl, beginD_on hac (pairK_trans p1 p2)⟩
          · cases h2
        · cases h1
theorem namesD_trans {l m x : List Nd} {i : Nat} : ∀ {k : Nat} {l' m' m2 x' : List Nd}, namesD nA nB l m i k = .on l' m' → namesD nB nC m x i k = .on m2 x' → m2 = m' ∧ namesD nA nC l x i k = .on l' x'
  | 0, l', m', m2, x', h1, h2 => by
    unfold namesD at h1 h2 ⊢
    injection h1 with e1 e2; injection h2 with e3 e4
    subst e1; subst e2; subst e3; subst e4
    exact ⟨rfl, rfl⟩
  | k + 1, l', m', m2, x', h1, h2 => by
    unfold namesD at h1 h2
    cases hb : namesD nA nB l m i k with
    | off d => rw [hb] at h1; cases h1
    | on l3 m3 =>
      cases hc : namesD nB nC m x i k with
      | off d => rw [hc] at h2; cases h2
      | on m4 x3 =>
        obtain ⟨rfl, hac⟩ := namesD_trans hb hc
        rw [hb] at h1; rw [hc] at h2
        simp only at h1 h2
        split at h1
        · rename_i p1
          split at h2
          · rename_i p2
            injection h1 with e1 e2; injection h2 with e3 e4
            subst e1; subst e2; subst e3; subst e4
            exact ⟨rfl, namesD_on hac (pairK_trans p1 p2)⟩
          · cases h2
        · cases h1
theorem loopOn_trans (ht : ∀ o q t, od o q = none → od2 q t = none → od3 o t = none) (hn : ∀ o q, od o q = none → nN' q = nN o) : ∀ (f i : Nat) {l m x : List Nd}, Side l m → Side m x →
    loopOn nN nA nB od f i l m → loopOn nN' nB nC od2 f i m x → loopOn nN nA nC od3 f i l x
  | 0, _, _, _, _, _, _, _, _ => trivial
  | f + 1, i, l, m, x, S1, S2, h1, h2 => fun hi => by
    obtain ⟨l', m', r1, k1⟩ := h1 hi
    obtain ⟨m2, x', r2, k2⟩ := h2 (by rw [S1.len]; exact hi)
    have T1 := (roundD_side S1 hi r1).1
    have T2 := (roundD_side S2 (by rw [S1.len]; exact hi) r2).1
    unfold roundD at r1 r2
    cases o1 : od (oAt l i) (oAt m i) with
    | some y => rw [o1] at r1; cases r1
    | none =>
      cases o2 : od2 (oAt m i) (oAt x i) with
      | some y => rw [o2] at r2; cases r2
      | none =>
        rw [o1] at r1; rw [o2, hn _ _ o1] at r2
        obtain ⟨rfl, r3⟩ := namesD_trans r1 r2
        exact ⟨l', x', by unfold roundD; rw [ht _ _ _ o1 o2]; exact r3, loopOn_trans ht hn f (i + 1) T1 T2 k1 k2⟩
theorem onD_trans (ht : ∀ o q t, od o q = none → od2 q t = none → od3 o t = none) (hn : ∀ o q, od o q = none → nN' q = nN o) {a b c : List Nat} (hab : b.length = a.length)
    (h1 : onD nN nA nB od a b) (h2 : onD nN' nB nC od2 b c) : onD nN nA nC od3 a c := by
  obtain ⟨l, m, b1, k1⟩ := h1
  obtain ⟨m2, x, b2, k2⟩ := h2
  rw [hab] at b2
  obtain ⟨rfl, b3⟩ := beginD_trans b1 b2
  exact ⟨l, x, b3, loopOn_trans ht hn _ _ (beginD_side b1) (beginD_side b2) k1 k2⟩
end
end Go.Proofs.YtpajpdjjpgbklaaDoor

namespace Go.Proofs.YtpajpdjjpgbklaaDoor

section
variable (nN : Nat → Nat) (nA : Nat → Nat → Nat)
/-- Behind the first i objects. -/
def seqM (fr : List Nat) : Nat → List Nd
  | 0 => meetF fr fr.length
  | i + 1 => roundM nN nA (seqM fr i) i
end
section
variable {nN nN' : Nat → Nat} {nA nB : Nat → Nat → Nat} {od : Nat → Nat → Option (Nat × Nat)}
theorem seqM_mono (fr : List Nat) {i j : Nat} (h : i ≤ j) : seqM nN nA fr i <+: seqM nN nA fr j := by
  induction j with
  | zero => obtain rfl : i = 0 := by omega
            exact List.prefix_refl _
  | succ j ih =>
    rcases Nat.lt_or_ge i (j + 1) with h1 | h1
    · exact (ih (by omega)).trans (roundM_pre nN nA _ _)
    · obtain rfl : i = j + 1 := by omega
      exact List.prefix_refl _
theorem bfsM_seq {fr : List Nat} {L : List Nd} : ∀ f i, bfsM nN nA f i (seqM nN nA fr i) = some L →
    ∃ n, i ≤ n ∧ n < i + f ∧ L = seqM nN nA fr n ∧ L.length ≤ n ∧ ∀ j, i ≤ j → j < n → j < (seqM nN nA fr j).length
  | 0, i, h => by simp [bfsM] at h
  | f + 1, i, h => by
    unfold bfsM at h
    split at h
    · rename_i hi
      split at h
      · cases h
      · obtain ⟨n, h1, h2, h3, h4, h5⟩ := bfsM_seq (fr := fr) f (i + 1) h
        refine ⟨n, by omega, by omega, h3, h4, fun j hj hn => ?_⟩
        rcases Nat.lt_or_ge i j with hj2 | hj2
        · exact h5 j (by omega) hn
        · obtain rfl : i = j := by omega
          exact hi
    · rename_i hi
      injection h with h
      exact ⟨i, Nat.le_refl _, by omega, h.symm, by rw [← h]; omega, fun j h1 h2 => by omega⟩
/-- All that is seen, as the end of a sequence. -/
theorem seenM_seq {fr : List Nat} {L : List Nd} (h : seenM nN nA fr = some L) :
    L = seqM nN nA fr L.length ∧ (∀ j, j < L.length → j < (seqM nN nA fr j).length) ∧ L.length ≤ 65537 := by
  unfold seenM at h
  split at h
  · cases h
  · obtain ⟨n, h1, h2, h3, h4, h5⟩ := bfsM_seq (nN := nN) (nA := nA) (fr := fr) _ 0 h
    have hn : n = L.length := by
      rcases Nat.eq_zero_or_pos n with h0 | h0
      · omega
      · have h6 := h5 (n - 1) (by omega) (by omega)
        have h7 := (seqM_mono (nN := nN) (nA := nA) fr (show n - 1 ≤ n by omega)).length_le
        rw [← h3] at h7
        omega
    subst hn
    exact ⟨h3, fun j hj => h5 j (by omega) hj, by omega⟩
theorem seenM_pre {fr : List Nat} {L : List Nd} (h : seenM nN nA fr = some L) {i : Nat} (hi : i ≤ L.length) : seqM nN nA fr i <+: L := by
  have := seqM_mono (nN := nN) (nA := nA) fr hi
  rw [← (seenM_seq h).1] at this
  exact this

/-- A list without depths. -/
def bare (l : List Nd) : List Nd := l.map fun n => { n with deep := 0 }
theorem bare_len (l : List Nd) : (bare l).length = l.length := by simp [bare]
theorem bare_oops (l : List Nd) : oopsOf (bare l) = oopsOf l := by simp [bare, oopsOf]
theorem bare_at (l : List Nd) (i : Nat) : (bare l).getD i default = { l.getD i default with deep := 0 } := by
  unfold bare
  simp only [List.getD_eq_getElem?_getD, List.getElem?_map]
  cases l[i]? <;> rfl
theorem bare_oAt (l : List Nd) (i : Nat) : oAt (bare l) i = oAt l i := by unfold oAt; rw [bare_at]
theorem bare_num (l : List Nd) (x : Nat) : numF (bare l) x = numF l x := by unfold numF; rw [bare_oops]
theorem bare_meet (l : List Nd) (o : Nat) (p f : Int) (d : Nat) : meetN (bare l) o p f 0 = bare (meetN l o p f d) := by
  unfold meetN
  rw [bare_oops]
  split
  · simp [bare]
  · rfl
theorem bare_pair (l m : List Nd) (v u : Nat) : pairK (bare l) (bare m) v u = pairK l m v u := by unfold pairK; rw [bare_num, bare_num]
theorem bare_pre {l l' : List Nd} (h : l <+: l') : bare l <+: bare l' := by
  obtain ⟨r, rfl⟩ := h
  exact ⟨bare r, by simp [bare]⟩
theorem beginD_bare {a b : List Nat} : ∀ {k : Nat} {l m : List Nd}, beginD a b k = .on l m → l = bare (meetF a k) ∧ m = bare (meetF b k)
  | 0, l, m, h => by unfold beginD at h; injection h with h1 h2; subst h1; subst h2; exact ⟨rfl, rfl⟩
  | k + 1, l, m, h => by
    unfold beginD at h
    cases hb : beginD a b k with
    | off d => rw [hb] at h; cases h
    | on l' m' =>
      obtain ⟨rfl, rfl⟩ := beginD_bare hb
      rw [hb] at h
      simp only at h
      split at h
      · injection h with h1 h2
        subst h1; subst h2
        exact ⟨bare_meet _ _ _ _ 1, bare_meet _ _ _ _ 1⟩
      · cases h
theorem namesD_bare {L M : List Nd} {i : Nat} : ∀ {k : Nat} {l m : List Nd}, namesD nA nB (bare L) (bare M) i k = .on l m → l = bare (meetK nA L i k) ∧ m = bare (meetK nB M i k)
  | 0, l, m, h => by unfold namesD at h; injection h with h1 h2; subst h1; subst h2; exact ⟨rfl, rfl⟩
  | k + 1, l, m, h => by
    unfold namesD at h
    cases hb : namesD nA nB (bare L) (bare M) i k with
    | off d => rw [hb] at h; cases h
    | on l' m' =>
      obtain ⟨rfl, rfl⟩ := namesD_bare hb
      rw [hb] at h
      simp only [bare_oAt] at h
      split at h
      · injection h with h1 h2
        subst h1; subst h2
        exact ⟨bare_meet _ _ _ _ _, bare_meet _ _ _ _ _⟩
      · cases h
theorem roundD_bare {L M l m : List Nd} {i : Nat} (hn : ∀ o q, od o q = none → nN' q = nN o) (h : roundD nN nA nB od (bare L) (bare M) i = .on l m) :
    od (oAt L i) (oAt M i) = none ∧ l = bare (roundM nN nA L i) ∧ m = bare (roundM nN' nB M i) := by
  unfold roundD at h
  rw [bare_oAt, bare_oAt] at h
  cases ho : od (oAt L i) (oAt M i) with
  | some x => rw [ho] at h; cases h
  | none =>
    rw [ho] at h
    obtain ⟨h1, h2⟩ := namesD_bare h
    refine ⟨rfl, h1, ?_⟩
    unfold roundM
    rw [show nN' ((M.getD i default).o) = nN (oAt L i) from hn _ _ ho]
    exact h2

/-- Numbers of a beginning of a list. -/
theorem numF_sub {l L : List Nd} (hp : oopsOf l <+: oopsOf L) (x : Nat) : numF l x = if numF L x ≤ l.length then numF L x else 0 := by
  obtain ⟨r, hr⟩ := hp
  unfold numF
  rw [← hr]
  by_cases h : x ∈ oopsOf l
  · have h1 := List.idxOf_lt_length_of_mem h
    rw [oopsOf_len] at h1
    rw [if_pos h, if_pos (List.mem_append_left _ h), List.idxOf_append, if_pos h, if_pos (by omega)]
  · rw [if_neg h]
    by_cases h2 : x ∈ oopsOf l ++ r
    · rw [if_pos h2, List.idxOf_append, if_neg h, oopsOf_len, if_neg (by omega)]
    · rw [if_neg h2]; simp
theorem pre_oops {l L : List Nd} (h : l <+: L) : oopsOf l <+: oopsOf L := by
  obtain ⟨r, rfl⟩ := h
  exact ⟨oopsOf r, by simp [oopsOf]⟩
theorem pair_down {l m L M : List Nd} (hl : oopsOf l <+: oopsOf L) (hm : oopsOf m <+: oopsOf M) (he : l.length = m.length) {v u : Nat} (h : pairK L M v u = 0) : pairK l m v u = 0 := by
  obtain ⟨h1, h2, h3⟩ := pairK_zero.1 h
  exact pairK_zero.2 ⟨h1, h2, fun hk => by rw [numF_sub hl, numF_sub hm, h3 hk, he]⟩
theorem numF_up {l L : List Nd} (hl : oopsOf l <+: oopsOf L) {v : Nat} (h : 0 < numF l v) : numF L v = numF l v := by
  have := numF_sub hl v
  split at this <;> omega
theorem pair_up {l m L M : List Nd} (hl : oopsOf l <+: oopsOf L) (hm : oopsOf m <+: oopsOf M) {v u : Nat} (h : pairK l m v u = 0) (hv : kindM v = 2 → v ∈ oopsOf l) : pairK L M v u = 0 := by
  obtain ⟨h1, h2, h3⟩ := pairK_zero.1 h
  refine pairK_zero.2 ⟨h1, h2, fun hk => ?_⟩
  have e := h3 hk
  have p := numF_pos.2 (hv hk)
  rw [numF_up hl p, numF_up hm (by omega), e]
theorem mem_meet {l : List Nd} {v : Nat} (p f : Int) (d : Nat) (h : kindM v = 2) : v ∈ oopsOf (meetN l v p f d) := by
  by_cases hm : v ∈ oopsOf l
  · exact (pre_oops (meetN_pre l v p f d)).subset hm
  · rw [meetN_new h hm]; simp [oopsOf]
/-- Met side by side they bear one number. -/
theorem Side.meet_pair {l m : List Nd} (S : Side l m) {v u : Nat} (hp : pairK l m v u = 0) (p f : Int) (d : Nat) : pairK (meetN l v p f d) (meetN m u p f d) v u = 0 := by
  obtain ⟨h1, h2, h3⟩ := pairK_zero.1 hp
  refine pairK_zero.2 ⟨h1, h2, fun hk => ?_⟩
  have e := h3 hk
  by_cases hm : v ∈ oopsOf l
  · have hm2 : u ∈ oopsOf m := numF_pos.1 (by rw [← e]; exact numF_pos.2 hm)
    rw [meetN_old (fun h => h.2 hm), meetN_old (fun h => h.2 hm2)]
    exact e
  · have hm2 : u ∉ oopsOf m := numF_zero.1 (by rw [← e]; exact numF_zero.2 hm)
    rw [meetN_new hk hm, meetN_new (by rw [← h1]; exact hk) hm2, numF_new hm, numF_new hm2, S.len]
    unfold upd
    rw [if_pos rfl, if_pos rfl]

/-- Two graphs that are alike, by the numbers of the whole. -/
structure Alike (nN : Nat → Nat) (nA nB : Nat → Nat → Nat) (od : Nat → Nat → Option (Nat × Nat)) (L M : List Nd) (a b : List Nat) : Prop where
  fr : ∀ k, k < a.length → pairK L M (a.getD k 0) (b.getD k 0) = 0
  len : M.length = L.length
  od : ∀ i, i < L.length → od (oAt L i) (oAt M i) = none
  nm : ∀ i, i < L.length → ∀ k, k < nN (oAt L i) → pairK L M (nA (oAt L i) k) (nB (oAt M i) k) = 0

theorem oAt_pre {l l' : List Nd} (h : l <+: l') {i : Nat} (hi : i < l.length) : oAt l i = oAt l' i := by
  obtain ⟨r, rfl⟩ := h
  unfold oAt
  rw [List.getD_eq_getElem?_getD, List.getD_eq_getElem?_getD, List.getElem?_append_left hi]
theorem meetF_mono (fr : List Nat) {i j : Nat} (h : i ≤ j) : meetF fr i <+: meetF fr j := by
  induction j with
  | zero => obtain rfl : i = 0 := by omega
            exact List.prefix_refl _
  | succ j ih =>
    rcases Nat.lt_or_ge i (j + 1) with h1 | h1
    · exact (ih (by omega)).trans (meetN_pre _ _ _ _ _)
    · obtain rfl : i = j + 1 := by omega
      exact List.prefix_refl _
theorem Side.bare_len {l m : List Nd} (S : Side (bare l) (bare m)) : m.length = l.length := by
  have := S.len
  rwa [Go.Proofs.YtpajpdjjpgbklaaDoor.bare_len, Go.Proofs.YtpajpdjjpgbklaaDoor.bare_len] at this
/-- What lies in the graph: beginnings, names. -/
theorem seen_fr {a : List Nat} {L : List Nd} (hL : seenM nN nA a = some L) {k : Nat} (hk : k < a.length) (h2 : kindM (a.getD k 0) = 2) : a.getD k 0 ∈ oopsOf L :=
  (pre_oops ((meetF_mono a (show k + 1 ≤ a.length by omega)).trans (seenM_pre hL (Nat.zero_le _)))).subset (mem_meet _ _ _ h2)
theorem seen_nm {a : List Nat} {L : List Nd} (hL : seenM nN nA a = some L) {i : Nat} (hi : i < L.length) {k : Nat} (hk : k < nN (oAt L i)) (h2 : kindM (nA (oAt L i) k) = 2) : nA (oAt L i) k ∈ oopsOf L := by
  have hs := (seenM_seq hL).2.1 i hi
  have ho : oAt (seqM nN nA a i) i = oAt L i := oAt_pre (seenM_pre hL (Nat.le_of_lt hi)) hs
  have h3 : meetK nA (seqM nN nA a i) i (k + 1) <+: L :=
    (meetK_mono nA _ i (show k + 1 ≤ nN ((seqM nN nA a i).getD i default).o by rw [show ((seqM nN nA a i).getD i default).o = oAt L i from ho]; exact hk)).trans (seenM_pre hL (show i + 1 ≤ L.length from hi))
  refine (pre_oops h3).subset ?_
  show _ ∈ oopsOf (meetN _ (nA ((seqM nN nA a i).getD i default).o k) _ _ _)
  rw [show ((seqM nN nA a i).getD i default).o = oAt L i from ho]
  exact mem_meet _ _ _ h2

section
variable {a b : List Nat} {L M : List Nd}
theorem alike_begin (hL : seenM nN nA a = some L) (hM : seenM nN' nB b = some M) (hab : b.length = a.length) (A : ∀ k, k < a.length → pairK L M (a.getD k 0) (b.getD k 0) = 0) :
    ∀ k, k ≤ a.length → beginD a b k = .on (bare (meetF a k)) (bare (meetF b k))
  | 0, _ => rfl
  | k + 1, hk => by
    have ih := alike_begin hL hM hab A k (by omega)
    have S := beginD_side ih
    have hl : meetF a k <+: L := (meetF_mono a (by omega)).trans (seenM_pre hL (Nat.zero_le _))
    have hm : meetF b k <+: M := (meetF_mono b (by omega)).trans (seenM_pre hM (Nat.zero_le _))
    have hp := pair_down (l := bare (meetF a k)) (m := bare (meetF b k)) (by rw [bare_oops]; exact pre_oops hl) (by rw [bare_oops]; exact pre_oops hm) S.len.symm (A k (by omega))
    rw [beginD_on ih hp, bare_meet _ _ _ _ 1, bare_meet _ _ _ _ 1]
    rfl
theorem alike_names (hL : seenM nN nA a = some L) (hM : seenM nN' nB b = some M) {i : Nat} (hi : i < L.length) (hiM : i < M.length) (S : Side (bare (seqM nN nA a i)) (bare (seqM nN' nB b i)))
    (hn : nN' (oAt M i) = nN (oAt L i)) (A : ∀ k, k < nN (oAt L i) → pairK L M (nA (oAt L i) k) (nB (oAt M i) k) = 0) :
    ∀ k, k ≤ nN (oAt L i) → namesD nA nB (bare (seqM nN nA a i)) (bare (seqM nN' nB b i)) i k = .on (bare (meetK nA (seqM nN nA a i) i k)) (bare (meetK nB (seqM nN' nB b i) i k))
  | 0, _ => rfl
  | k + 1, hk => by
    have ih := alike_names hL hM hi hiM S hn A k (by omega)
    have hsl := (seenM_seq hL).2.1 i hi
    have hsm := (seenM_seq hM).2.1 i hiM
    have hol : oAt (seqM nN nA a i) i = oAt L i := oAt_pre (seenM_pre hL (Nat.le_of_lt hi)) hsl
    have hom : oAt (seqM nN' nB b i) i = oAt M i := oAt_pre (seenM_pre hM (Nat.le_of_lt hiM)) hsm
    obtain ⟨S2, -, -⟩ := namesD_side S (by rw [bare_len]; exact hsl) ih
    have hl : meetK nA (seqM nN nA a i) i k <+: L := (meetK_mono nA _ i (show k ≤ nN (oAt (seqM nN nA a i) i) by rw [hol]; omega)).trans (seenM_pre hL (show i + 1 ≤ L.length from hi))
    have hm : meetK nB (seqM nN' nB b i) i k <+: M := (meetK_mono nB _ i (show k ≤ nN' (oAt (seqM nN' nB b i) i) by rw [hom, hn]; omega)).trans (seenM_pre hM (show i + 1 ≤ M.length from hiM))
    have hp := pair_down (l := bare (meetK nA (seqM nN nA a i) i k)) (m := bare (meetK nB (seqM nN' nB b i) i k)) (by rw [bare_oops]; exact pre_oops hl) (by rw [bare_oops]; exact pre_oops hm) S2.len.symm (A k (by omega))
    rw [namesD_on ih (by rw [bare_oAt, bare_oAt, hol, hom]; exact hp), bare_meet _ _ _ _ (((seqM nN nA a i).getD i default).deep + 1), bare_meet _ _ _ _ (((seqM nN' nB b i).getD i default).deep + 1), bare_oAt, bare_oAt]
    rfl
theorem alike_round (hL : seenM nN nA a = some L) (hM : seenM nN' nB b = some M) (hn : ∀ o q, od o q = none → nN' q = nN o) (A : Alike nN nA nB od L M a b) {i : Nat} (hi : i < L.length) (S : Side (bare (seqM nN nA a i)) (bare (seqM nN' nB b i))) :
    roundD nN nA nB od (bare (seqM nN nA a i)) (bare (seqM nN' nB b i)) i = .on (bare (seqM nN nA a (i + 1))) (bare (seqM nN' nB b (i + 1))) := by
  have hiM : i < M.length := by rw [A.len]; exact hi
  have hol : oAt (seqM nN nA a i) i = oAt L i := oAt_pre (seenM_pre hL (Nat.le_of_lt hi)) ((seenM_seq hL).2.1 i hi)
  have hom : oAt (seqM nN' nB b i) i = oAt M i := oAt_pre (seenM_pre hM (Nat.le_of_lt hiM)) ((seenM_seq hM).2.1 i hiM)
  have hnn := hn _ _ (A.od i hi)
  have h1 := alike_names hL hM hi hiM S hnn (A.nm i hi) _ (Nat.le_refl _)
  unfold roundD
  rw [bare_oAt, bare_oAt, hol, hom, A.od i hi]
  simp only [h1]
  show _ = Two2.on (bare (meetK nA (seqM nN nA a i) i (nN (oAt (seqM nN nA a i) i)))) (bare (meetK nB (seqM nN' nB b i) i (nN' (oAt (seqM nN' nB b i) i))))
  rw [hol, hom, hnn]
theorem alike_loop (hL : seenM nN nA a = some L) (hM : seenM nN' nB b = some M) (hn : ∀ o q, od o q = none → nN' q = nN o) (A : Alike nN nA nB od L M a b) :
    ∀ f i, i ≤ L.length → Side (bare (seqM nN nA a i)) (bare (seqM nN' nB b i)) → loopOn nN nA nB od f i (bare (seqM nN nA a i)) (bare (seqM nN' nB b i))
  | 0, _, _, _ => trivial
  | f + 1, i, hi, S => fun hlt => by
    rw [bare_len] at hlt
    have hi2 : i < L.length := Nat.lt_of_lt_of_le hlt (seenM_pre hL hi).length_le
    have hr := alike_round hL hM hn A hi2 S
    exact ⟨_, _, hr, alike_loop hL hM hn A f (i + 1) hi2 (roundD_side S (by rw [bare_len]; exact hlt) hr).1⟩
theorem alike_onD (hL : seenM nN nA a = some L) (hM : seenM nN' nB b = some M) (hn : ∀ o q, od o q = none → nN' q = nN o) (hab : b.length = a.length) (A : Alike nN nA nB od L M a b) : onD nN nA nB od a b := by
  have h := alike_begin hL hM hab A.fr _ (Nat.le_refl _)
  refine ⟨_, _, h, ?_⟩
  have S := beginD_side h
  have e : bare (meetF b a.length) = bare (seqM nN' nB b 0) := by rw [← hab]; rfl
  rw [e] at S ⊢
  exact alike_loop hL hM hn A _ 0 (Nat.zero_le _) S

/-- What the walk without a difference has seen. -/
theorem beginD_pairs {a b : List Nat} : ∀ {k : Nat} {l m : List Nd}, beginD a b k = .on l m → ∀ j, j < k → pairK l m (a.getD j 0) (b.getD j 0) = 0
  | 0, l, m, h, j, hj => by omega
  | k + 1, l, m, h, j, hj => by
    unfold beginD at h
    cases hb : beginD a b k with
    | off d => rw [hb] at h; cases h
    | on l' m' =>
      rw [hb] at h
      simp only at h
      split at h
      · rename_i hp
        injection h with h1 h2
        subst h1; subst h2
        rcases Nat.lt_or_ge j k with hjk | hjk
        · have h3 := beginD_pairs hb j hjk
          obtain ⟨e1, e2⟩ := beginD_bare hb
          refine pair_up (pre_oops (meetN_pre _ _ _ _ _)) (pre_oops (meetN_pre _ _ _ _ _)) h3 (fun hk => ?_)
          rw [e1, bare_oops]
          exact (pre_oops (meetF_mono a (show j + 1 ≤ k by omega))).subset (mem_meet _ _ _ hk)
        · obtain rfl : j = k := by omega
          exact (beginD_side hb).meet_pair hp _ _ _
      · cases h
theorem namesD_pairs {L M : List Nd} {i : Nat} (S : Side (bare L) (bare M)) (hi : i < L.length) : ∀ {k : Nat} {l m : List Nd}, namesD nA nB (bare L) (bare M) i k = .on l m →
    ∀ j, j < k → pairK l m (nA (oAt L i) j) (nB (oAt M i) j) = 0
  | 0, l, m, h, j, hj => by omega
  | k + 1, l, m, h, j, hj => by
    unfold namesD at h
    cases hb : namesD nA nB (bare L) (bare M) i k with
    | off d => rw [hb] at h; cases h
    | on l' m' =>
      rw [hb] at h
      simp only [bare_oAt] at h
      split at h
      · rename_i hp
        injection h with h1 h2
        subst h1; subst h2
        obtain ⟨S2, -, -⟩ := namesD_side S (by rw [bare_len]; exact hi) hb
        rcases Nat.lt_or_ge j k with hjk | hjk
        · have h3 := namesD_pairs S hi hb j hjk
          obtain ⟨e1, e2⟩ := namesD_bare hb
          refine pair_up (pre_oops (meetN_pre _ _ _ _ _)) (pre_oops (meetN_pre _ _ _ _ _)) h3 (fun hk => ?_)
          rw [e1, bare_oops]
          exact (pre_oops (meetK_mono nA L i (show j + 1 ≤ k by omega))).subset (mem_meet _ _ _ hk)
        · obtain rfl : j = k := by omega
          exact S2.meet_pair hp _ _ _
      · cases h
theorem loopOn_at (hL : seenM nN nA a = some L) (hn : ∀ o q, od o q = none → nN' q = nN o) : ∀ i f, i ≤ L.length → L.length ≤ f → loopOn nN nA nB od f 0 (bare (seqM nN nA a 0)) (bare (seqM nN' nB b 0)) → Side (bare (seqM nN nA a 0)) (bare (seqM nN' nB b 0)) →
    loopOn nN nA nB od (f - i) i (bare (seqM nN nA a i)) (bare (seqM nN' nB b i)) ∧ Side (bare (seqM nN nA a i)) (bare (seqM nN' nB b i))
  | 0, f, _, _, h, S => ⟨h, S⟩
  | i + 1, f, hi, hf, h, S => by
    obtain ⟨h1, S1⟩ := loopOn_at hL hn i f (by omega) hf h S
    obtain ⟨g, hg⟩ : ∃ g, f - i = g + 1 := ⟨f - i - 1, by omega⟩
    rw [hg] at h1
    have hlt := (seenM_seq hL).2.1 i (by omega)
    obtain ⟨l', m', hr, h2⟩ := h1 (by rw [bare_len]; exact hlt)
    obtain ⟨-, e1, e2⟩ := roundD_bare hn hr
    subst e1; subst e2
    rw [show f - (i + 1) = g by omega]
    exact ⟨h2, (roundD_side S1 (by rw [bare_len]; exact hlt) hr).1⟩
theorem onD_alike (hL : seenM nN nA a = some L) (hM : seenM nN' nB b = some M) (hn : ∀ o q, od o q = none → nN' q = nN o) (hab : b.length = a.length) (h : onD nN nA nB od a b) : Alike nN nA nB od L M a b := by
  obtain ⟨l0, m0, hb, h0⟩ := h
  have S0 := beginD_side hb
  have hpr := beginD_pairs hb
  obtain ⟨e1, e2⟩ := beginD_bare hb
  rw [← hab] at e2
  have hln := (seenM_seq hL).2.2
  have e1' : l0 = bare (seqM nN nA a 0) := e1
  have e2' : m0 = bare (seqM nN' nB b 0) := e2
  clear e1 e2
  subst e1'; subst e2'
  have at_ := fun i hi => loopOn_at hL hn i fuelD hi (by unfold fuelD; omega) h0 S0
  have hll : ∀ i, i ≤ L.length → (seqM nN' nB b i).length = (seqM nN nA a i).length := fun i hi => (at_ i hi).2.bare_len
  have hlen : M.length = L.length := by
    rcases Nat.lt_trichotomy M.length L.length with h1 | h1 | h1
    · have h2 := (seenM_seq hL).2.1 _ h1
      have h3 := hll _ (Nat.le_of_lt h1)
      have h4 := congrArg List.length (seenM_seq hM).1
      omega
    · exact h1
    · have h2 := (seenM_seq hM).2.1 _ h1
      have h3 := hll _ (Nat.le_refl _)
      have h4 := congrArg List.length (seenM_seq hL).1
      omega
  have rnd : ∀ i, i < L.length → roundD nN nA nB od (bare (seqM nN nA a i)) (bare (seqM nN' nB b i)) i = .on (bare (seqM nN nA a (i + 1))) (bare (seqM nN' nB b (i + 1))) ∧ od (oAt L i) (oAt M i) = none := fun i hi => by
    obtain ⟨h1, S1⟩ := at_ i (Nat.le_of_lt hi)
    obtain ⟨g, hg⟩ : ∃ g, fuelD - i = g + 1 := ⟨fuelD - i - 1, by unfold fuelD; omega⟩
    rw [hg] at h1
    have hlt := (seenM_seq hL).2.1 i hi
    obtain ⟨l', m', hr, h2⟩ := h1 (by rw [bare_len]; exact hlt)
    obtain ⟨ho, e1, e2⟩ := roundD_bare hn hr
    subst e1; subst e2
    rw [oAt_pre (seenM_pre hL (Nat.le_of_lt hi)) hlt, oAt_pre (seenM_pre hM (by omega)) ((seenM_seq hM).2.1 i (by omega))] at ho
    exact ⟨hr, ho⟩
  refine ⟨fun k hk => ?_, hlen, fun i hi => (rnd i hi).2, fun i hi k hk => ?_⟩
  · refine pair_up (l := bare (seqM nN nA a 0)) (m := bare (seqM nN' nB b 0)) ?_ ?_ (hpr k hk) (fun h2 => ?_)
    · rw [bare_oops]; exact pre_oops (seenM_pre hL (Nat.zero_le _))
    · rw [bare_oops]; exact pre_oops (seenM_pre hM (Nat.zero_le _))
    · rw [bare_oops]; exact (pre_oops (meetF_mono a (show k + 1 ≤ a.length by omega))).subset (mem_meet _ _ _ h2)
  · obtain ⟨hr, ho⟩ := rnd i hi
    have hlt := (seenM_seq hL).2.1 i hi
    have hltM := (seenM_seq hM).2.1 i (by omega)
    have hol : oAt (seqM nN nA a i) i = oAt L i := oAt_pre (seenM_pre hL (Nat.le_of_lt hi)) hlt
    have hom : oAt (seqM nN' nB b i) i = oAt M i := oAt_pre (seenM_pre hM (by omega)) hltM
    unfold roundD at hr
    rw [bare_oAt, bare_oAt, hol, hom, ho] at hr
    have h3 := namesD_pairs (at_ i (Nat.le_of_lt hi)).2 hlt hr k hk
    rw [hol, hom] at h3
    refine pair_up (l := bare (seqM nN nA a (i + 1))) (m := bare (seqM nN' nB b (i + 1))) ?_ ?_ h3 (fun h2 => ?_)
    · rw [bare_oops]; exact pre_oops (seenM_pre hL hi)
    · rw [bare_oops]; exact pre_oops (seenM_pre hM (by omega))
    · rw [bare_oops]
      refine (pre_oops (meetK_mono nA _ i (show k + 1 ≤ nN (oAt (seqM nN nA a i) i) by rw [hol]; omega))).subset ?_
      rw [← hol]
      exact mem_meet _ _ _ (show kindM (nA (oAt (seqM nN nA a i) i) k) = 2 by rw [hol]; exact h2)
end
end
end Go.Proofs.YtpajpdjjpgbklaaDoor
