/- The walk of a graph as a sequence of lists; no difference is likeness by the numbers of the whole graphs. Plain data. -/
/- A difference is there: its way leads in both to what differs. Plain data. -/
/- No number's bytes begin another's; the first place where two rows differ. Plain data. -/
/- What two objects name held against each other, in any order. Plain data. -/
import Derived.Test.YtpajpdjjpgbklaaDoorJOop
set_option linter.unusedVariables false
set_option linter.unusedSectionVars false
namespace Go.Proofs.YtpajpdjjpgbklaaDoor

section
variable (nN : Nat → Nat) (nA : Nat → Nat → Nat)
/-- Behind the first i objects. -/
def seqM (fr : List Nat) : Nat → List Nd
  | 0 => meetF fr fr.length
  | i + 1 => roundM nN nA (seqM fr i) i
end
section
variable {nN nN' : Nat → Nat} {nA nB : Nat → Nat → Nat} {od : Nat → Nat → Option (Nat × Nat)}
theorem seqM_mono (fr : List Nat) {i j : Nat} (h : i ≤ j) : seqM nN nA fr i <+: seqM nN nA fr j := by
  induction j with
  | zero => obtain rfl : i = 0 := by omega
            exact List.prefix_refl _
  | succ j ih =>
    rcases Nat.lt_or_ge i (j + 1) with h1 | h1
    · exact (ih (by omega)).trans (roundM_pre nN nA _ _)
    · obtain rfl : i = j + 1 := by omega
      exact List.prefix_refl _
theorem bfsM_seq {fr : List Nat} {L : List Nd} : ∀ f i, bfsM nN nA f i (seqM nN nA fr i) = some L →
    ∃ n, i ≤ n ∧ n < i + f ∧ L = seqM nN nA fr n ∧ L.length ≤ n ∧ ∀ j, i ≤ j → j < n → j < (seqM nN nA fr j).length
  | 0, i, h => by simp [bfsM] at h
  | f + 1, i, h => by
    unfold bfsM at h
    split at h
    · rename_i hi
      split at h
      · cases h
      · obtain ⟨n, h1, h2, h3, h4, h5⟩ := bfsM_seq (fr := fr) f (i + 1) h
        refine ⟨n, by omega, by omega, h3, h4, fun j hj hn => ?_⟩
        rcases Nat.lt_or_ge i j with hj2 | hj2
        · exact h5 j (by omega) hn
        · obtain rfl : i = j := by omega
          exact hi
    · rename_i hi
      injection h with h
      exact ⟨i, Nat.le_refl _, by omega, h.symm, by rw [← h]; omega, fun j h1 h2 => by omega⟩
/-- All that is seen, as the end of a sequence. -/
theorem seenM_seq {fr : List Nat} {L : List Nd} (h : seenM nN nA fr = some L) :
    L = seqM nN nA fr L.length ∧ (∀ j, j < L.length → j < (seqM nN nA fr j).length) ∧ L.length ≤ 65537 := by
  unfold seenM at h
  split at h
  · cases h
  · obtain ⟨n, h1, h2, h3, h4, h5⟩ := bfsM_seq (nN := nN) (nA := nA) (fr := fr) _ 0 h
    have hn : n = L.length := by
      rcases Nat.eq_zero_or_pos n with h0 | h0
      · omega
      · have h6 := h5 (n - 1) (by omega) (by omega)
        have h7 := (seqM_mono (nN := nN) (nA := nA) fr (show n - 1 ≤ n by omega)).length_le
        rw [← h3] at h7
        omega
    subst hn
    exact ⟨h3, fun j hj => h5 j (by omega) hj, by omega⟩
theorem seenM_pre {fr : List Nat} {L : List Nd} (h : seenM nN nA fr = some L) {i : Nat} (hi : i ≤ L.length) : seqM nN nA fr i <+: L := by
  have := seqM_mono (nN := nN) (nA := nA) fr hi
  rw [← (seenM_seq h).1] at this
  exact this

/-- A list without depths. -/
def bare (l : List Nd) : List Nd := l.map fun n => { n with deep := 0 }
theorem bare_len (l : List Nd) : (bare l).length = l.length := by simp [bare]
theorem bare_oops (l : List Nd) : oopsOf (bare l) = oopsOf l := by simp [bare, oopsOf]
theorem bare_at (l : List Nd) (i : Nat) : (bare l).getD i default = { l.getD i default with deep := 0 } := by
  unfold bare
  simp only [List.getD_eq_getElem?_getD, List.getElem?_map]
  cases l[i]? <;> rfl
theorem bare_oAt (l : List Nd) (i : Nat) : oAt (bare l) i = oAt l i := by unfold oAt; rw [bare_at]
theorem bare_num (l : List Nd) (x : Nat) : numF (bare l) x = numF l x := by unfold numF; rw [bare_oops]
theorem bare_meet (l : List Nd) (o : Nat) (p f : Int) (d : Nat) : meetN (bare l) o p f 0 = bare (meetN l o p f d) := by
  unfold meetN
  rw [bare_oops]
  split
  · simp [bare]
  · rfl
theorem bare_pair (l m : List Nd) (v u : Nat) : pairK (bare l) (bare m) v u = pairK l m v u := by unfold pairK; rw [bare_num, bare_num]
theorem bare_pre {l l' : List Nd} (h : l <+: l') : bare l <+: bare l' := by
  obtain ⟨r, rfl⟩ := h
  exact ⟨bare r, by simp [bare]⟩
theorem beginD_bare {a b : List Nat} : ∀ {k : Nat} {l m : List Nd}, beginD a b k = .on l m → l = bare (meetF a k) ∧ m = bare (meetF b k)
  | 0, l, m, h => by unfold beginD at h; injection h with h1 h2; subst h1; subst h2; exact ⟨rfl, rfl⟩
  | k + 1, l, m, h => by
    unfold beginD at h
    cases hb : beginD a b k with
    | off d => rw [hb] at h; cases h
    | on l' m' =>
      obtain ⟨rfl, rfl⟩ := beginD_bare hb
      rw [hb] at h
      simp only at h
      split at h
      · injection h with h1 h2
        subst h1; subst h2
        exact ⟨bare_meet _ _ _ _ 1, bare_meet _ _ _ _ 1⟩
      · cases h
theorem namesD_bare {L M : List Nd} {i : Nat} : ∀ {k : Nat} {l m : List Nd}, namesD nA nB (bare L) (bare M) i k = .on l m → l = bare (meetK nA L i k) ∧ m = bare (meetK nB M i k)
  | 0, l, m, h => by unfold namesD at h; injection h with h1 h2; subst h1; subst h2; exact ⟨rfl, rfl⟩
  | k + 1, l, m, h => by
    unfold namesD at h
    cases hb : namesD nA nB (bare L) (bare M) i k with
    | off d => rw [hb] at h; cases h
    | on l' m' =>
      obtain ⟨rfl, rfl⟩ := namesD_bare hb
      rw [hb] at h
      simp only [bare_oAt] at h
      split at h
      · injection h with h1 h2
        subst h1; subst h2
        exact ⟨bare_meet _ _ _ _ _, bare_meet _ _ _ _ _⟩
      · cases h
theorem roundD_bare {L M l m : List Nd} {i : Nat} (hn : ∀ o q, od o q = none → nN' q = nN o) (h : roundD nN nA nB od (bare L) (bare M) i = .on l m) :
    od (oAt L i) (oAt M i) = none ∧ l = bare (roundM nN nA L i) ∧ m = bare (roundM nN' nB M i) := by
  unfold roundD at h
  rw [bare_oAt, bare_oAt] at h
  cases ho : od (oAt L i) (oAt M i) with
  | some x => rw [ho] at h; cases h
  | none =>
    rw [ho] at h
    obtain ⟨h1, h2⟩ := namesD_bare h
    refine ⟨rfl, h1, ?_⟩
    unfold roundM
    rw [show nN' ((M.getD i default).o) = nN (oAt L i) from hn _ _ ho]
    exact h2

/-- Numbers of a beginning of a list. -/
theorem numF_sub {l L : List Nd} (hp : oopsOf l <+: oopsOf L) (x : Nat) : numF l x = if numF L x ≤ l.length then numF L x else 0 := by
  obtain ⟨r, hr⟩ := hp
  unfold numF
  rw [← hr]
  by_cases h : x ∈ oopsOf l
  · have h1 := List.idxOf_lt_length_of_mem h
    rw [oopsOf_len] at h1
    rw [if_pos h, if_pos (List.mem_append_left _ h), List.idxOf_append, if_pos h, if_pos (by omega)]
  · rw [if_neg h]
    by_cases h2 : x ∈ oopsOf l ++ r
    · rw [if_pos h2, List.idxOf_append, if_neg h, oopsOf_len, if_neg (by omega)]
    · rw [if_neg h2]; simp
theorem pre_oops {l L : List Nd} (h : l <+: L) : oopsOf l <+: oopsOf L := by
  obtain ⟨r, rfl⟩ := h
  exact ⟨oopsOf r, by simp [oopsOf]⟩
theorem pair_down {l m L M : List Nd} (hl : oopsOf l <+: oopsOf L) (hm : oopsOf m <+: oopsOf M) (he : l.length = m.length) {v u : Nat} (h : pairK L M v u = 0) : pairK l m v u = 0 := by
  obtain ⟨h1, h2, h3⟩ := pairK_zero.1 h
  exact pairK_zero.2 ⟨h1, h2, fun hk => by rw [numF_sub hl, numF_sub hm, h3 hk, he]⟩
theorem numF_up {l L : List Nd} (hl : oopsOf l <+: oopsOf L) {v : Nat} (h : 0 < numF l v) : numF L v = numF l v := by
  have := numF_sub hl v
  split at this <;> omega
theorem pair_up {l m L M : List Nd} (hl : oopsOf l <+: oopsOf L) (hm : oopsOf m <+: oopsOf M) {v u : Nat} (h : pairK l m v u = 0) (hv : kindM v = 2 → v ∈ oopsOf l) : pairK L M v u = 0 := by
  obtain ⟨h1, h2, h3⟩ := pairK_zero.1 h
  refine pairK_zero.2 ⟨h1, h2, fun hk => ?_⟩
  have e := h3 hk
  have p := numF_pos.2 (hv hk)
  rw [numF_up hl p, numF_up hm (by omega), e]
theorem mem_meet {l : List Nd} {v : Nat} (p f : Int) (d : Nat) (h : kindM v = 2) : v ∈ oopsOf (meetN l v p f d) := by
  by_cases hm : v ∈ oopsOf l
  · exact (pre_oops (meetN_pre l v p f d)).subset hm
  · rw [meetN_new h hm]; simp [oopsOf]
/-- Met side by side they bear one number. -/
theorem Side.meet_pair {l m : List Nd} (S : Side l m) {v u : Nat} (hp : pairK l m v u = 0) (p f : Int) (d : Nat) : pairK (meetN l v p f d) (meetN m u p f d) v u = 0 := by
  obtain ⟨h1, h2, h3⟩ := pairK_zero.1 hp
  refine pairK_zero.2 ⟨h1, h2, fun hk => ?_⟩
  have e := h3 hk
  by_cases hm : v ∈ oopsOf l
  · have hm2 : u ∈ oopsOf m := numF_pos.1 (by rw [← e]; exact numF_pos.2 hm)
    rw [meetN_old (fun h => h.2 hm), meetN_old (fun h => h.2 hm2)]
    exact e
  · have hm2 : u ∉ oopsOf m := numF_zero.1 (by rw [← e]; exact numF_zero.2 hm)
    rw [meetN_new hk hm, meetN_new (by rw [← h1]; exact hk) hm2, numF_new hm, numF_new hm2, S.len]
    unfold upd
    rw [if_pos rfl, if_pos rfl]

/-- Two graphs that are alike, by the numbers of the whole. -/
structure Alike (nN : Nat → Nat) (nA nB : Nat → Nat → Nat) (od : Nat → Nat → Option (Nat × Nat)) (L M : List Nd) (a b : List Nat) : Prop where
  fr : ∀ k, k < a.length → pairK L M (a.getD k 0) (b.getD k 0) = 0
  len : M.length = L.length
  od : ∀ i, i < L.length → od (oAt L i) (oAt M i) = none
  nm : ∀ i, i < L.length → ∀ k, k < nN (oAt L i) → pairK L M (nA (oAt L i) k) (nB (oAt M i) k) = 0

theorem oAt_pre {l l' : List Nd} (h : l <+: l') {i : Nat} (hi : i < l.length) : oAt l i = oAt l' i := by
  obtain ⟨r, rfl⟩ := h
  unfold oAt
  rw [List.getD_eq_getElem?_getD, List.getD_eq_getElem?_getD, List.getElem?_append_left hi]
theorem meetF_mono (fr : List Nat) {i j : Nat} (h : i ≤ j) : meetF fr i <+: meetF fr j := by
  induction j with
  | zero => obtain rfl : i = 0 := by omega
            exact List.prefix_refl _
  | succ j ih =>
    rcases Nat.lt_or_ge i (j + 1) with h1 | h1
    · exact (ih (by omega)).trans (meetN_pre _ _ _ _ _)
    · obtain rfl : i = j + 1 := by omega
      exact List.prefix_refl _
theorem Side.bare_len {l m : List Nd} (S : Side (bare l) (bare m)) : m.length = l.length := by
  have := S.len
  rwa [Go.Proofs.YtpajpdjjpgbklaaDoor.bare_len, Go.Proofs.YtpajpdjjpgbklaaDoor.bare_len] at this
/-- What lies in the graph: beginnings, names. -/
theorem seen_fr {a : List Nat} {L : List Nd} (hL : seenM nN nA a = some L) {k : Nat} (hk : k < a.length) (h2 : kindM (a.getD k 0) = 2) : a.getD k 0 ∈ oopsOf L :=
  (pre_oops ((meetF_mono a (show k + 1 ≤ a.length by omega)).trans (seenM_pre hL (Nat.zero_le _)))).subset (mem_meet _ _ _ h2)
theorem seen_nm {a : List Nat} {L : List Nd} (hL : seenM nN nA a = some L) {i : Nat} (hi : i < L.length) {k : Nat} (hk : k < nN (oAt L i)) (h2 : kindM (nA (oAt L i) k) = 2) : nA (oAt L i) k ∈ oopsOf L := by
  have hs := (seenM_seq hL).2.1 i hi
  have ho : oAt (seqM nN nA a i) i = oAt L i := oAt_pre (seenM_pre hL (Nat.le_of_lt hi)) hs
  have h3 : meetK nA (seqM nN nA a i) i (k + 1) <+: L :=
    (meetK_mono nA _ i (show k + 1 ≤ nN ((seqM nN nA a i).getD i default).o by rw [show ((seqM nN nA a i).getD i default).o = oAt L i from ho]; exact hk)).trans (seenM_pre hL (show i + 1 ≤ L.length from hi))
  refine (pre_oops h3).subset ?_
  show _ ∈ oopsOf (meetN _ (nA ((seqM nN nA a i).getD i default).o k) _ _ _)
  rw [show ((seqM nN nA a i).getD i default).o = oAt L i from ho]
  exact mem_meet _ _ _ h2

section
variable {a b : List Nat} {L M : List Nd}
theorem alike_begin (hL : seenM nN nA a = some L) (hM : seenM nN' nB b = some M) (hab : b.length = a.length) (A : ∀ k, k < a.length → pairK L M (a.getD k 0) (b.getD k 0) = 0) :
    ∀ k, k ≤ a.length → beginD a b k = .on (bare (meetF a k)) (bare (meetF b k))
  | 0, _ => rfl
  | k + 1, hk => by
    have ih := alike_begin hL hM hab A k (by omega)
    have S := beginD_side ih
    have hl : meetF a k <+: L := (meetF_mono a (by omega)).trans (seenM_pre hL (Nat.zero_le _))
    have hm : meetF b k <+: M := (meetF_mono b (by omega)).trans (seenM_pre hM (Nat.zero_le _))
    have hp := pair_down (l := bare (meetF a k)) (m := bare (meetF b k)) (by rw [bare_oops]; exact pre_oops hl) (by rw [bare_oops]; exact pre_oops hm) S.len.symm (A k (by omega))
    rw [beginD_on ih hp, bare_meet _ _ _ _ 1, bare_meet _ _ _ _ 1]
    rfl
theorem alike_names (hL : seenM nN nA a = some L) (hM : seenM nN' nB b = some M) {i : Nat} (hi : i < L.length) (hiM : i < M.length) (S : Side (bare (seqM nN nA a i)) (bare (seqM nN' nB b i)))
    (hn : nN' (oAt M i) = nN (oAt L i)) (A : ∀ k, k < nN (oAt L i) → pairK L M (nA (oAt L i) k) (nB (oAt M i) k) = 0) :
    ∀ k, k ≤ nN (oAt L i) → namesD nA nB (bare (seqM nN nA a i)) (bare (seqM nN' nB b i)) i k = .on (bare (meetK nA (seqM nN nA a i) i k)) (bare (meetK nB (seqM nN' nB b i) i k))
  | 0, _ => rfl
  | k + 1, hk => by
    have ih := alike_names hL hM hi hiM S hn A k (by omega)
    have hsl := (seenM_seq hL).2.1 i hi
    have hsm := (seenM_seq hM).2.1 i hiM
    have hol : oAt (seqM nN nA a i) i = oAt L i := oAt_pre (seenM_pre hL (Nat.le_of_lt hi)) hsl
    have hom : oAt (seqM nN' nB b i) i = oAt M i := oAt_pre (seenM_pre hM (Nat.le_of_lt hiM)) hsm
    obtain ⟨S2, -, -⟩ := namesD_side S (by rw [bare_len]; exact hsl) ih
    have hl : meetK nA (seqM nN nA a i) i k <+: L := (meetK_mono nA _ i (show k ≤ nN (oAt (seqM nN nA a i) i) by rw [hol]; omega)).trans (seenM_pre hL (show i + 1 ≤ L.length from hi))
    have hm : meetK nB (seqM nN' nB b i) i k <+: M := (meetK_mono nB _ i (show k ≤ nN' (oAt (seqM nN' nB b i) i) by rw [hom, hn]; omega)).trans (seenM_pre hM (show i + 1 ≤ M.length from hiM))
    have hp := pair_down (l := bare (meetK nA (seqM nN nA a i) i k)) (m := bare (meetK nB (seqM nN' nB b i) i k)) (by rw [bare_oops]; exact pre_oops hl) (by rw [bare_oops]; exact pre_oops hm) S2.len.symm (A k (by omega))
    rw [namesD_on ih (by rw [bare_oAt, bare_oAt, hol, hom]; exact hp), bare_meet _ _ _ _ (((seqM nN nA a i).getD i default).deep + 1), bare_meet _ _ _ _ (((seqM nN' nB b i).getD i default).deep + 1), bare_oAt, bare_oAt]
    rfl
theorem alike_round (hL : seenM nN nA a = some L) (hM : seenM nN' nB b = some M) (hn : ∀ o q, od o q = none → nN' q = nN o) (A : Alike nN nA nB od L M a b) {i : Nat} (hi : i < L.length) (S : Side (bare (seqM nN nA a i)) (bare (seqM nN' nB b i))) :
    roundD nN nA nB od (bare (seqM nN nA a i)) (bare (seqM nN' nB b i)) i = .on (bare (seqM nN nA a (i + 1))) (bare (seqM nN' nB b (i + 1))) := by
  have hiM : i < M.length := by rw [A.len]; exact hi
  have hol : oAt (seqM nN nA a i) i = oAt L i := oAt_pre (seenM_pre hL (Nat.le_of_lt hi)) ((seenM_seq hL).2.1 i hi)
  have hom : oAt (seqM nN' nB b i) i = oAt M i := oAt_pre (seenM_pre hM (Nat.le_of_lt hiM)) ((seenM_seq hM).2.1 i hiM)
  have hnn := hn _ _ (A.od i hi)
  have h1 := alike_names hL hM hi hiM S hnn (A.nm i hi) _ (Nat.le_refl _)
  unfold roundD
  rw [bare_oAt, bare_oAt, hol, hom, A.od i hi]
  simp only [h1]
  show _ = Two2.on (bare (meetK nA (seqM nN nA a i) i (nN (oAt (seqM nN nA a i) i)))) (bare (meetK nB (seqM nN' nB b i) i (nN' (oAt (seqM nN' nB b i) i))))
  rw [hol, hom, hnn]
theorem alike_loop (hL : seenM nN nA a = some L) (hM : seenM nN' nB b = some M) (hn : ∀ o q, od o q = none → nN' q = nN o) (A : Alike nN nA nB od L M a b) :
    ∀ f i, i ≤ L.length → Side (bare (seqM nN nA a i)) (bare (seqM nN' nB b i)) → loopOn nN nA nB od f i (bare (seqM nN nA a i)) (bare (seqM nN' nB b i))
  | 0, _, _, _ => trivial
  | f + 1, i, hi, S => fun hlt => by
    rw [bare_len] at hlt
    have hi2 : i < L.length := Nat.lt_of_lt_of_le hlt (seenM_pre hL hi).length_le
    have hr := alike_round hL hM hn A hi2 S
    exact ⟨_, _, hr, alike_loop hL hM hn A f (i + 1) hi2 (roundD_side S (by rw [bare_len]; exact hlt) hr).1⟩
theorem alike_onD (hL : seenM nN nA a = some L) (hM : seenM nN' nB b = some M) (hn : ∀ o q, od o q = none → nN' q = nN o) (hab : b.length = a.length) (A : Alike nN nA nB od L M a b) : onD nN nA nB od a b := by
  have h := alike_begin hL hM hab A.fr _ (Nat.le_refl _)
  refine ⟨_, _, h, ?_⟩
  have S := beginD_side h
  have e : bare (meetF b a.length) = bare (seqM nN' nB b 0) := by rw [← hab]; rfl
  rw [e] at S ⊢
  exact alike_loop hL hM hn A _ 0 (Nat.zero_le _) S

/-- What the walk without a difference has seen. -/
theorem beginD_pairs {a b : List Nat} : ∀ {k : Nat} {l m : List Nd}, beginD a b k = .on l m → ∀ j, j < k → pairK l m (a.getD j 0) (b.getD j 0) = 0
  | 0, l, m, h, j, hj => by omega
  | k + 1, l, m, h, j, hj => by
    unfold beginD at h
    cases hb : beginD a b k with
    | off d => rw [hb] at h; cases h
    | on l' m' =>
      rw [hb] at h
      simp only at h
      split at h
      · rename_i hp
        injection h with h1 h2
        subst h1; subst h2
        rcases Nat.lt_or_ge j k with hjk | hjk
        · have h3 := beginD_pairs hb j hjk
          obtain ⟨e1, e2⟩ := beginD_bare hb
          refine pair_up (pre_oops (meetN_pre _ _ _ _ _)) (pre_oops (meetN_pre _ _ _ _ _)) h3 (fun hk => ?_)
          rw [e1, bare_oops]
          exact (pre_oops (meetF_mono a (show j + 1 ≤ k by omega))).subset (mem_meet _ _ _ hk)
        · obtain rfl : j = k := by omega
          exact (beginD_side hb).meet_pair hp _ _ _
      · cases h
theorem namesD_pairs {L M : List Nd} {i : Nat} (S : Side (bare L) (bare M)) (hi : i < L.length) : ∀ {k : Nat} {l m : List Nd}, namesD nA nB (bare L) (bare M) i k = .on l m →
    ∀ j, j < k → pairK l m (nA (oAt L i) j) (nB (oAt M i) j) = 0
  | 0, l, m, h, j, hj => by omega
  | k + 1, l, m, h, j, hj => by
    unfold namesD at h
    cases hb : namesD nA nB (bare L) (bare M) i k with
    | off d => rw [hb] at h; cases h
    | on l' m' =>
      rw [hb] at h
      simp only [bare_oAt] at h
      split at h
      · rename_i hp
        injection h with h1 h2
        subst h1; subst h2
        obtain ⟨S2, -, -⟩ := namesD_side S (by rw [bare_len]; exact hi) hb
        rcases Nat.lt_or_ge j k with hjk | hjk
        · have h3 := namesD_pairs S hi hb j hjk
          obtain ⟨e1, e2⟩ := namesD_bare hb
          refine pair_up (pre_oops (meetN_pre _ _ _ _ _)) (pre_oops (meetN_pre _ _ _ _ _)) h3 (fun hk => ?_)
          rw [e1, bare_oops]
          exact (pre_oops (meetK_mono nA L i (show j + 1 ≤ k by omega))).subset (mem_meet _ _ _ hk)
        · obtain rfl : j = k := by omega
          exact S2.meet_pair hp _ _ _
      · cases h
theorem loopOn_at (hL : seenM nN nA a = some L) (hn : ∀ o q, od o q = none → nN' q = nN o) : ∀ i f, i ≤ L.length → L.length ≤ f → loopOn nN nA nB od f 0 (bare (seqM nN nA a 0)) (bare (seqM nN' nB b 0)) → Side (bare (seqM nN nA a 0)) (bare (seqM nN' nB b 0)) →
    loopOn nN nA nB od (f - i) i (bare (seqM nN nA a i)) (bare (seqM nN' nB b i)) ∧ Side (bare (seqM nN nA a i)) (bare (seqM nN' nB b i))
  | 0, f, _, _, h, S => ⟨h, S⟩
  | i + 1, f, hi, hf, h, S => by
    obtain ⟨h1, S1⟩ := loopOn_at hL hn i f (by omega) hf h S
    obtain ⟨g, hg⟩ : ∃ g, f - i = g + 1 := ⟨f - i - 1, by omega⟩
    rw [hg] at h1
    have hlt := (seenM_seq hL).2.1 i (by omega)
    obtain ⟨l', m', hr, h2⟩ := h1 (by rw [bare_len]; exact hlt)
    obtain ⟨-, e1, e2⟩ := roundD_bare hn hr
    subst e1; subst e2
    rw [show f - (i + 1) = g by omega]
    exact ⟨h2, (roundD_side S1 (by rw [bare_len]; exact hlt) hr).1⟩
theorem onD_alike (hL : seenM nN nA a = some L) (hM : seenM nN' nB b = some M) (hn : ∀ o q, od o q = none → nN' q = nN o) (hab : b.length = a.length) (h : onD nN nA nB od a b) : Alike nN nA nB od L M a b := by
  obtain ⟨l0, m0, hb, h0⟩ := h
  have S0 := beginD_side hb
  have hpr := beginD_pairs hb
  obtain ⟨e1, e2⟩ := beginD_bare hb
  rw [← hab] at e2
  have hln := (seenM_seq hL).2.2
  have e1' : l0 = bare (seqM nN nA a 0) := e1
  have e2' : m0 = bare (seqM nN' nB b 0) := e2
  clear e1 e2
  subst e1'; subst e2'
  have at_ := fun i hi => loopOn_at hL hn i fuelD hi (by unfold fuelD; omega) h0 S0
  have hll : ∀ i, i ≤ L.length → (seqM nN' nB b i).length = (seqM nN nA a i).length := fun i hi => (at_ i hi).2.bare_len
  have hlen : M.length = L.length := by
    rcases Nat.lt_trichotomy M.length L.length with h1 | h1 | h1
    · have h2 := (seenM_seq hL).2.1 _ h1
      have h3 := hll _ (Nat.le_of_lt h1)
      have h4 := congrArg List.length (seenM_seq hM).1
      omega
    · exact h1
    · have h2 := (seenM_seq hM).2.1 _ h1
      have h3 := hll _ (Nat.le_refl _)
      have h4 := congrArg List.length (seenM_seq hL).1
      omega
  have rnd : ∀ i, i < L.length → roundD nN nA nB od (bare (seqM nN nA a i)) (bare (seqM nN' nB b i)) i = .on (bare (seqM nN nA a (i + 1))) (bare (seqM nN' nB b (i + 1))) ∧ od (oAt L i) (oAt M i) = none := fun i hi => by
    obtain ⟨h1, S1⟩ := at_ i (Nat.le_of_lt hi)
    obtain ⟨g, hg⟩ : ∃ g, fuelD - i = g + 1 := ⟨fuelD - i - 1, by unfold fuelD; omega⟩
    rw [hg] at h1
    have hlt := (seenM_seq hL).2.1 i hi
    obtain ⟨l', m', hr, h2⟩ := h1 (by rw [bare_len]; exact hlt)
    obtain ⟨ho, e1, e2⟩ := roundD_bare hn hr
    subst e1; subst e2
    rw [oAt_pre (seenM_pre hL (Nat.le_of_lt hi)) hlt, oAt_pre (seenM_pre hM (by omega)) ((seenM_seq hM).2.1 i (by omega))] at ho
    exact ⟨hr, ho⟩
  refine ⟨fun k hk => ?_, hlen, fun i hi => (rnd i hi).2, fun i hi k hk => ?_⟩
  · refine pair_up (l := bare (seqM nN nA a 0)) (m := bare (seqM nN' nB b 0)) ?_ ?_ (hpr k hk) (fun h2 => ?_)
    · rw [bare_oops]; exact pre_oops (seenM_pre hL (Nat.zero_le _))
    · rw [bare_oops]; exact pre_oops (seenM_pre hM (Nat.zero_le _))
    · rw [bare_oops]; exact (pre_oops (meetF_mono a (show k + 1 ≤ a.length by omega))).subset (mem_meet _ _ _ h2)
  · obtain ⟨hr, ho⟩ := rnd i hi
    have hlt := (seenM_seq hL).2.1 i hi
    have hltM := (seenM_seq hM).2.1 i (by omega)
    have hol : oAt (seqM nN nA a i) i = oAt L i := oAt_pre (seenM_pre hL (Nat.le_of_lt hi)) hlt
    have hom : oAt (seqM nN' nB b i) i = oAt M i := oAt_pre (seenM_pre hM (by omega)) hltM
    unfold roundD at hr
    rw [bare_oAt, bare_oAt, hol, hom, ho] at hr
    have h3 := namesD_pairs (at_ i (Nat.le_of_lt hi)).2 hlt hr k hk
    rw [hol, hom] at h3
    refine pair_up (l := bare (seqM nN nA a (i + 1))) (m := bare (seqM nN' nB b (i + 1))) ?_ ?_ h3 (fun h2 => ?_)
    · rw [bare_oops]; exact pre_oops (seenM_pre hL hi)
    · rw [bare_oops]; exact pre_oops (seenM_pre hM (by omega))
    · rw [bare_oops]
      refine (pre_oops (meetK_mono nA _ i (show k + 1 ≤ nN (oAt (seqM nN nA a i) i) by rw [hol]; omega))).subset ?_
      rw [← hol]
      exact mem_meet _ _ _ (show kindM (nA (oAt (seqM nN nA a i) i) k) = 2 by rw [hol]; exact h2)
end
end
end Go.Proofs.YtpajpdjjpgbklaaDoor

namespace Go.Proofs.YtpajpdjjpgbklaaDoor

/-- A way from one object to another: each step names a value of the one it stands at. -/
inductive Leads (nN : Nat → Nat) (nA : Nat → Nat → Nat) (o : Nat) : List Int → Nat → Prop where
  | here : Leads nN nA o [] o
  | step {p : List Int} {q : Nat} (k : Nat) : Leads nN nA o p q → kindM q = 2 → k < nN q → Leads nN nA o (p ++ [(k : Int) - 1]) (nA q k)
/-- A list that was met: each is a beginning, or named by one ahead of it. -/
def Grown (nN : Nat → Nat) (nA : Nat → Nat → Nat) (a : List Nat) (l : List Nd) : Prop :=
  ∀ i, i < l.length → kindM (oAt l i) = 2 ∧ (((l.getD i default).par = -1 ∧ ∃ k : Nat, k < a.length ∧ (l.getD i default).fld = k ∧ oAt l i = a.getD k 0) ∨
    (∃ j k : Nat, j < i ∧ (l.getD i default).par = j ∧ (l.getD i default).fld = (k : Int) - 1 ∧ k < nN (oAt l j) ∧ oAt l i = nA (oAt l j) k))
section
variable {nN nN' : Nat → Nat} {nA nB : Nat → Nat → Nat} {od : Nat → Nat → Option (Nat × Nat)} {a b : List Nat} {l m : List Nd}
theorem Grown.nil : Grown nN nA a [] := fun i h => by simp at h
theorem oAt_old {x : Nd} {i : Nat} (hi : i < l.length) : oAt (l ++ [x]) i = oAt l i := (oAt_pre (List.prefix_append l [x]) hi).symm
theorem Grown.meet (G : Grown nN nA a l) (o : Nat) (p f : Int) (d : Nat) (h : (p = -1 ∧ ∃ k : Nat, k < a.length ∧ f = k ∧ o = a.getD k 0) ∨ (∃ j k : Nat, j < l.length ∧ p = j ∧ f = (k : Int) - 1 ∧ k < nN (oAt l j) ∧ o = nA (oAt l j) k)) :
    Grown nN nA a (meetN l o p f d) := by
  unfold meetN
  split
  case isFalse => exact G
  case isTrue hc =>
    intro i hi
    rw [List.length_append, List.length_cons, List.length_nil] at hi
    rcases Nat.lt_or_ge i l.length with h1 | h1
    · obtain ⟨hk, hx⟩ := G i h1
      rw [oAt_old h1, getD_snoc, if_pos h1]
      refine ⟨hk, hx.imp id ?_⟩
      rintro ⟨j, k, h2, h3, h4, h5, h6⟩
      exact ⟨j, k, h2, h3, h4, by rw [oAt_old (by omega)]; exact h5, by rw [oAt_old (by omega)]; exact h6⟩
    · obtain rfl : i = l.length := by omega
      have e : (l ++ [(⟨o, p, f, d⟩ : Nd)]).getD l.length default = (⟨o, p, f, d⟩ : Nd) := by rw [getD_snoc, if_neg (by omega), if_pos rfl]
      unfold oAt at *
      rw [e]
      refine ⟨hc.1, h.imp id ?_⟩
      rintro ⟨j, k, h2, h3, h4, h5, h6⟩
      refine ⟨j, k, h2, h3, h4, ?_, ?_⟩
      · rw [getD_snoc, if_pos h2]; exact h5
      · rw [getD_snoc, if_pos h2]; exact h6
theorem Grown.up (G : Grown nN nA a l) : ∀ i, i < l.length → (l.getD i default).par < (i : Int) := fun i hi => by
  rcases (G i hi).2 with ⟨h, _⟩ | ⟨j, k, h, h2, _⟩ <;> omega
/-- The way to what was met leads there. -/
theorem Grown.path (G : Grown nN nA a l) : ∀ i, i < l.length → ∃ (k : Nat) (r : List Int), k < a.length ∧ pathM l i = (k : Int) :: r ∧ Leads nN nA (a.getD k 0) r (oAt l i) := by
  intro i
  induction i using Nat.strongRecOn with
  | _ i ih =>
    intro hi
    rcases (G i hi).2 with ⟨h1, k, h2, h3, h4⟩ | ⟨j, k, h1, h2, h3, h4, h5⟩
    · refine ⟨k, [], h2, ?_, by rw [h4]; exact .here⟩
      unfold pathM pathF
      rw [if_pos (by omega), h3]
    · obtain ⟨k0, r, h6, h7, h8⟩ := ih j h1 (by omega)
      refine ⟨k0, r ++ [(k : Int) - 1], h6, ?_, ?_⟩
      · unfold pathM pathF
        rw [if_neg (by omega), h2, h3]
        have : pathF l i ((j : Int)).toNat = pathM l j := by
          rw [show ((j : Int)).toNat = j by omega]
          exact pathF_fuel G.up _ _ _ (by omega) h1 (by omega)
        rw [this, h7]
        rfl
      · rw [h5]
        exact .step k h8 (G j (by omega)).1 h4
theorem beginD_grown (hab : b.length = a.length) : ∀ {k : Nat} {l m : List Nd}, k ≤ a.length → beginD a b k = .on l m → Grown nN nA a l ∧ Grown nN' nB b m
  | 0, l, m, _, h => by unfold beginD at h; injection h with h1 h2; subst h1; subst h2; exact ⟨.nil, .nil⟩
  | k + 1, l, m, hk, h => by
    unfold beginD at h
    cases hb : beginD a b k with
    | off d => rw [hb] at h; cases h
    | on l' m' =>
      rw [hb] at h
      simp only at h
      split at h
      · injection h with h1 h2
        subst h1; subst h2
        obtain ⟨G1, G2⟩ := beginD_grown hab (by omega) hb
        exact ⟨G1.meet _ _ _ _ (.inl ⟨rfl, k, by omega, rfl, rfl⟩), G2.meet _ _ _ _ (.inl ⟨rfl, k, by omega, rfl, rfl⟩)⟩
      · cases h
theorem namesD_grown (S : Side l m) (G1 : Grown nN nA a l) (G2 : Grown nN' nB b m) {i : Nat} (hi : i < l.length) (hn : nN' (oAt m i) = nN (oAt l i)) : ∀ {k : Nat} {l' m' : List Nd}, k ≤ nN (oAt l i) → namesD nA nB l m i k = .on l' m' → Grown nN nA a l' ∧ Grown nN' nB b m'
  | 0, l', m', _, h => by unfold namesD at h; injection h with h1 h2; subst h1; subst h2; exact ⟨G1, G2⟩
  | k + 1, l', m', hk, h => by
    unfold namesD at h
    cases hb : namesD nA nB l m i k with
    | off d => rw [hb] at h; cases h
    | on l2 m2 =>
      rw [hb] at h
      simp only at h
      obtain ⟨S2, p1, p2⟩ := namesD_side S hi hb
      obtain ⟨H1, H2⟩ := namesD_grown S G1 G2 hi hn (by omega) hb
      split at h
      · injection h with h1 h2
        subst h1; subst h2
        have e1 := oAt_pre p1 hi
        have e2 := oAt_pre p2 (show i < m.length by rw [S.len]; exact hi)
        refine ⟨H1.meet _ _ _ _ (.inr ⟨i, k, Nat.lt_of_lt_of_le hi p1.length_le, rfl, rfl, ?_, ?_⟩), H2.meet _ _ _ _ (.inr ⟨i, k, Nat.lt_of_lt_of_le (by rw [S.len]; exact hi) p2.length_le, rfl, rfl, ?_, ?_⟩)⟩
        · rw [← e1]; omega
        · rw [← e1]
        · rw [← e2, hn]; omega
        · rw [← e2]
      · cases h
/-- What a difference tells: its way leads in both heaps to two values that differ so. -/
def Tells (nN nN' : Nat → Nat) (nA nB : Nat → Nat → Nat) (od : Nat → Nat → Option (Nat × Nat)) (a b : List Nat) (d : Df) : Prop :=
  ∃ (k : Nat) (r : List Int) (u v : Nat), k < a.length ∧ d.path = (k : Int) :: r ∧ Leads nN nA (a.getD k 0) r u ∧ Leads nN' nB (b.getD k 0) r v ∧
    ((∃ l m, d.kind = pairK l m u v) ∨ (kindM u = 2 ∧ kindM v = 2 ∧ od u v = some (d.kind, d.at_)))
theorem beginD_tells (hab : b.length = a.length) : ∀ {k : Nat} {d : Df}, k ≤ a.length → beginD a b k = .off d → Tells nN nN' nA nB od a b d
  | 0, d, _, h => by cases h
  | k + 1, d, hk, h => by
    unfold beginD at h
    cases hb : beginD a b k with
    | off d' => rw [hb] at h; injection h with h; subst h; exact beginD_tells hab (by omega) hb
    | on l m =>
      rw [hb] at h
      simp only at h
      split at h
      · cases h
      · injection h with h
        subst h
        exact ⟨k, [], _, _, by omega, rfl, .here, .here, .inl ⟨l, m, rfl⟩⟩
theorem namesD_tells (S : Side l m) (G1 : Grown nN nA a l) (G2 : Grown nN' nB b m) (hab : b.length = a.length) {i : Nat} (hi : i < l.length) (hn : nN' (oAt m i) = nN (oAt l i)) : ∀ {k : Nat} {d : Df}, k ≤ nN (oAt l i) → namesD nA nB l m i k = .off d → Tells nN nN' nA nB od a b d
  | 0, d, _, h => by cases h
  | k + 1, d, hk, h => by
    unfold namesD at h
    cases hb : namesD nA nB l m i k with
    | off d' => rw [hb] at h; injection h with h; subst h; exact namesD_tells S G1 G2 hab hi hn (by omega) hb
    | on l2 m2 =>
      rw [hb] at h
      simp only at h
      split at h
      · cases h
      · injection h with h
        subst h
        obtain ⟨k0, r, h1, h2, h3⟩ := G1.path i hi
        obtain ⟨k1, r1, h4, h5, h6⟩ := G2.path i (by rw [S.len]; exact hi)
        rw [pathM_side S hi, h2] at h5
        injection h5 with e1 e2
        subst e2
        obtain rfl : k0 = k1 := by omega
        exact ⟨k0, r ++ [(k : Int) - 1], _, _, h1, by rw [h2]; rfl, .step k h3 (G1 i hi).1 (by omega), .step k h6 (G2 i (by rw [S.len]; exact hi)).1 (by omega), .inl ⟨l2, m2, rfl⟩⟩
theorem loopD_tells (hab : b.length = a.length) (hn : ∀ o q, od o q = none → nN' q = nN o) : ∀ (f i : Nat) {l m : List Nd}, Side l m → Grown nN nA a l → Grown nN' nB b m → (loopD nN nA nB od f i l m).kind ≠ 0 → Tells nN nN' nA nB od a b (loopD nN nA nB od f i l m)
  | 0, _, _, _, _, _, _, h => by simp [loopD] at h
  | f + 1, i, l, m, S, G1, G2, h => by
    by_cases hi : i < l.length
    · cases hr : roundD nN nA nB od l m i with
      | off d =>
        rw [loopD_off hi hr]
        unfold roundD at hr
        cases ho : od (oAt l i) (oAt m i) with
        | some x =>
          rw [ho] at hr
          injection hr with hr
          subst hr
          obtain ⟨k0, r, h1, h2, h3⟩ := G1.path i hi
          obtain ⟨k1, r1, h4, h5, h6⟩ := G2.path i (by rw [S.len]; exact hi)
          rw [pathM_side S hi, h2] at h5
          injection h5 with e1 e2
          subst e2
          obtain rfl : k0 = k1 := by omega
          exact ⟨k0, r, _, _, h1, h2, h3, h6, .inr ⟨(G1 i hi).1, (G2 i (by rw [S.len]; exact hi)).1, ho⟩⟩
        | none =>
          rw [ho] at hr
          exact namesD_tells S G1 G2 hab hi (hn _ _ ho) (Nat.le_refl _) hr
      | on l' m' =>
        rw [loopD_on hi hr] at h ⊢
        have S2 := (roundD_side S hi hr).1
        unfold roundD at hr
        cases ho : od (oAt l i) (oAt m i) with
        | some x => rw [ho] at hr; cases hr
        | none =>
          rw [ho] at hr
          obtain ⟨H1, H2⟩ := namesD_grown S G1 G2 hi (hn _ _ ho) (Nat.le_refl _) hr
          exact loopD_tells hab hn f (i + 1) S2 H1 H2 h
    · rw [loopD_end hi] at h; exact absurd rfl h
theorem diffD_tells (hab : b.length = a.length) (hn : ∀ o q, od o q = none → nN' q = nN o) (h : (diffD nN nA nB od a b).kind ≠ 0) : Tells nN nN' nA nB od a b (diffD nN nA nB od a b) := by
  unfold diffD at h ⊢
  cases hb : beginD a b a.length with
  | off d => exact beginD_tells hab (Nat.le_refl _) hb
  | on l m =>
    rw [hb] at h
    obtain ⟨G1, G2⟩ := beginD_grown (nN := nN) (nN' := nN') (nA := nA) (nB := nB) hab (Nat.le_refl _) hb
    exact loopD_tells hab hn _ _ (beginD_side hb) G1 G2 h
/-- No difference has no way. -/
theorem loopD_none (h0 : ∀ o q k x, od o q = some (k, x) → k ≠ 0) : ∀ (f i : Nat) (l m : List Nd), (loopD nN nA nB od f i l m).kind = 0 → loopD nN nA nB od f i l m = ⟨0, [], 0⟩
  | 0, _, _, _, _ => rfl
  | f + 1, i, l, m, h => by
    by_cases hi : i < l.length
    · cases hr : roundD nN nA nB od l m i with
      | off d => rw [loopD_off hi hr] at h; exact absurd h (roundD_kind h0 hr)
      | on l' m' => rw [loopD_on hi hr] at h ⊢; exact loopD_none h0 f _ _ _ h
    · exact loopD_end hi
theorem diffD_none (h0 : ∀ o q k x, od o q = some (k, x) → k ≠ 0) (h : (diffD nN nA nB od a b).kind = 0) : diffD nN nA nB od a b = ⟨0, [], 0⟩ := by
  unfold diffD at h ⊢
  cases hb : beginD a b a.length with
  | off d => rw [hb] at h; exact absurd h (beginD_kind hb)
  | on l m => rw [hb] at h; exact loopD_none h0 _ _ _ _ h
end
end Go.Proofs.YtpajpdjjpgbklaaDoor

namespace Go.Proofs.YtpajpdjjpgbklaaDoor

theorem cnt7_ne (x : Nat) : cnt7 x ≠ [] := by
  by_cases h : x < 128
  · rw [cnt7_small h]; simp
  · rw [cnt7_big h]; simp
/-- No number's bytes begin another's. -/
theorem cnt7_pre : ∀ (x y : Nat) (s t : List Nat), cnt7 x ++ s = cnt7 y ++ t → x = y ∧ s = t := by
  intro x
  induction x using Nat.strongRecOn with
  | _ x ih =>
    intro y s t h
    by_cases hx : x < 128
    · by_cases hy : y < 128
      · rw [cnt7_small hx, cnt7_small hy] at h
        simp only [List.cons_append, List.nil_append, List.cons.injEq] at h
        exact h
      · rw [cnt7_small hx, cnt7_big hy] at h
        simp only [List.cons_append, List.nil_append, List.cons.injEq] at h
        omega
    · by_cases hy : y < 128
      · rw [cnt7_big hx, cnt7_small hy] at h
        simp only [List.cons_append, List.nil_append, List.cons.injEq] at h
        omega
      · rw [cnt7_big hx, cnt7_big hy] at h
        simp only [List.cons_append, List.cons.injEq] at h
        obtain ⟨h1, h2⟩ := ih (x / 128) (by omega) (y / 128) s t h.2
        exact ⟨by omega, h2⟩
theorem flat_pre {f g : Nat → Nat} : ∀ {xs ys : List Nat} {s t : List Nat}, xs.length = ys.length → xs.flatMap (fun k => cnt7 (f k)) ++ s = ys.flatMap (fun k => cnt7 (g k)) ++ t →
    (∀ k, k < xs.length → f (xs.getD k 0) = g (ys.getD k 0)) ∧ s = t
  | [], [], s, t, _, h => ⟨fun k hk => by simp at hk, h⟩
  | x :: xs, y :: ys, s, t, hl, h => by
    rw [List.flatMap_cons, List.flatMap_cons, List.append_assoc, List.append_assoc] at h
    obtain ⟨h1, h2⟩ := cnt7_pre _ _ _ _ h
    obtain ⟨h3, h4⟩ := flat_pre (by simpa using hl) h2
    refine ⟨fun k hk => ?_, h4⟩
    cases k with
    | zero => exact h1
    | succ k => exact h3 k (by simpa using hk)
  | [], y :: ys, _, _, hl, _ => by simp at hl
  | x :: xs, [], _, _, hl, _ => by simp at hl
theorem flat_same {f g : Nat → Nat} : ∀ {xs ys : List Nat}, xs.length = ys.length → (∀ k, k < xs.length → f (xs.getD k 0) = g (ys.getD k 0)) → xs.flatMap (fun k => cnt7 (f k)) = ys.flatMap (fun k => cnt7 (g k))
  | [], [], _, _ => rfl
  | x :: xs, y :: ys, hl, h => by
    rw [List.flatMap_cons, List.flatMap_cons, show f x = g y from h 0 (by simp), flat_same (xs := xs) (ys := ys) (by simpa using hl) (fun k hk => h (k + 1) (by simpa using hk))]
  | [], y :: ys, hl, _ => by simp at hl
  | x :: xs, [], hl, _ => by simp at hl
theorem objs_pre {F G : Nat → List Nat} {R : Nat → Nat → Prop} (hF : ∀ o, F o ≠ []) (hG : ∀ o, G o ≠ []) : ∀ {xs ys : List Nat}, (∀ o ∈ xs, ∀ q ∈ ys, ∀ s t, F o ++ s = G q ++ t → R o q ∧ s = t) → xs.flatMap F = ys.flatMap G →
    ys.length = xs.length ∧ ∀ k, k < xs.length → R (xs.getD k 0) (ys.getD k 0)
  | [], [], _, _ => ⟨rfl, fun k hk => by simp at hk⟩
  | x :: xs, y :: ys, hp, h => by
    rw [List.flatMap_cons, List.flatMap_cons] at h
    obtain ⟨h1, h2⟩ := hp x (List.mem_cons_self ..) y (List.mem_cons_self ..) _ _ h
    obtain ⟨h3, h4⟩ := objs_pre hF hG (fun o ho q hq => hp o (List.mem_cons_of_mem _ ho) q (List.mem_cons_of_mem _ hq)) h2
    refine ⟨by simp [h3], fun k hk => ?_⟩
    cases k with
    | zero => exact h1
    | succ k => exact h4 k (by simpa using hk)
  | [], y :: ys, _, h => by
    rw [List.flatMap_nil, List.flatMap_cons] at h
    exact absurd (List.append_eq_nil_iff.1 h.symm).1 (hG y)
  | x :: xs, [], _, h => by
    rw [List.flatMap_nil, List.flatMap_cons] at h
    exact absurd (List.append_eq_nil_iff.1 h).1 (hF x)
theorem objs_same {F G : Nat → List Nat} : ∀ {xs ys : List Nat}, ys.length = xs.length → (∀ k, k < xs.length → F (xs.getD k 0) = G (ys.getD k 0)) → xs.flatMap F = ys.flatMap G
  | [], [], _, _ => rfl
  | x :: xs, y :: ys, hl, h => by
    rw [List.flatMap_cons, List.flatMap_cons, show F x = G y from h 0 (by simp), objs_same (xs := xs) (ys := ys) (by simpa using hl) (fun k hk => h (k + 1) (by simpa using hk))]
  | [], y :: ys, hl, _ => by simp at hl
  | x :: xs, [], hl, _ => by simp at hl
/-- The first place at which two rows differ. -/
def firstD (n : Nat) (v w : Nat → Nat) : Option Nat := (List.range n).find? fun k => decide (v k ≠ w k)
theorem firstD_none {n : Nat} {v w : Nat → Nat} : firstD n v w = none ↔ ∀ k, k < n → v k = w k := by
  unfold firstD
  rw [List.find?_eq_none]
  simp
theorem firstD_some {n : Nat} {v w : Nat → Nat} {k : Nat} (h : firstD n v w = some k) : k < n ∧ v k ≠ w k := by
  unfold firstD at h
  have h1 := List.find?_some h
  have h2 := List.mem_of_find?_eq_some h
  exact ⟨by simpa using h2, by simpa using h1⟩
theorem firstD_swap (n : Nat) (v w : Nat → Nat) : firstD n w v = firstD n v w := by
  unfold firstD
  congr 1
  funext k
  simp only [ne_eq, eq_comm]
theorem firstD_first {n k : Nat} {v w : Nat → Nat} (hk : k < n) (h : v k ≠ w k) (hb : ∀ j, j < k → v j = w j) : firstD n v w = some k := by
  unfold firstD
  rw [List.find?_eq_some_iff_getElem]
  refine ⟨by simpa using h, k, by simpa using hk, by simp, fun j hj => by simpa using hb j hj⟩
end Go.Proofs.YtpajpdjjpgbklaaDoor

namespace Go.Proofs.YtpajpdjjpgbklaaDoor

/-- What two objects name held against each other, in any order. -/
def stepD (nA nB : Nat → Nat → Nat) (o u : Nat) (i : Nat) (path : List Int) : Two2 → Nat → Two2
  | .off d, _ => .off d
  | .on l m, k => if pairK l m (nA o k) (nB u k) = 0 then .on (meetN l (nA o k) i ((k : Int) - 1) 0) (meetN m (nB u k) i ((k : Int) - 1) 0) else .off ⟨pairK l m (nA o k) (nB u k), path ++ [(k : Int) - 1], 0⟩
def namesP (nA nB : Nat → Nat → Nat) (l m : List Nd) (i : Nat) (pre : List Nat) : Two2 := pre.foldl (stepD nA nB (oAt l i) (oAt m i) i (pathM l i)) (.on l m)
section
variable {nA nB : Nat → Nat → Nat} {l m l' m' : List Nd} {i k : Nat} {pre : List Nat}
theorem namesP_snoc (pre : List Nat) (k : Nat) : namesP nA nB l m i (pre ++ [k]) = stepD nA nB (oAt l i) (oAt m i) i (pathM l i) (namesP nA nB l m i pre) k := by
  unfold namesP; rw [List.foldl_append]; rfl
theorem namesP_on (h : namesP nA nB l m i pre = .on l' m') (hp : pairK l' m' (nA (oAt l i) k) (nB (oAt m i) k) = 0) :
    namesP nA nB l m i (pre ++ [k]) = .on (meetN l' (nA (oAt l i) k) i ((k : Int) - 1) 0) (meetN m' (nB (oAt m i) k) i ((k : Int) - 1) 0) := by
  rw [namesP_snoc, h]; unfold stepD; simp only [hp, if_true]
theorem namesP_off (h : namesP nA nB l m i pre = .on l' m') (hp : pairK l' m' (nA (oAt l i) k) (nB (oAt m i) k) ≠ 0) :
    namesP nA nB l m i (pre ++ [k]) = .off ⟨pairK l' m' (nA (oAt l i) k) (nB (oAt m i) k), pathM l i ++ [(k : Int) - 1], 0⟩ := by
  rw [namesP_snoc, h]; unfold stepD; simp only [hp, if_false]
theorem namesP_range : ∀ k, namesP nA nB l m i (List.range k) = namesD nA nB l m i k
  | 0 => rfl
  | k + 1 => by
    rw [List.range_succ, namesP_snoc, namesP_range k]
    conv => rhs; unfold namesD
    cases namesD nA nB l m i k <;> rfl
theorem fin_vals (n : Nat) : (List.finRange n).map (·.1) = List.range n := by
  apply List.ext_getElem
  · simp
  · intro j h1 h2; simp
theorem fin_pre {n : Nat} {pre : List (Fin n)} (h : pre <+: List.finRange n) : pre.map (·.1) = List.range pre.length ∧ pre.length ≤ n := by
  have hl := h.length_le
  rw [List.length_finRange] at hl
  refine ⟨?_, hl⟩
  obtain ⟨r, hr⟩ := h
  have h2 := congrArg (fun x : List (Fin n) => (x.map (·.1)).take pre.length) hr
  simp only [fin_vals, List.map_append] at h2
  rw [List.take_left' (by simp)] at h2
  rw [h2]
  apply List.ext_getElem
  · simp; omega
  · intro j h1 h3; simp
theorem namesD_bareL {L m : List Nd} {i : Nat} : ∀ {k : Nat} {l' m' : List Nd}, namesD nA nB (bare L) m i k = .on l' m' → l' = bare (meetK nA L i k)
  | 0, l', m', h => by unfold namesD at h; injection h with h1 h2; subst h1; subst h2; rfl
  | k + 1, l', m', h => by
    unfold namesD at h
    cases hb : namesD nA nB (bare L) m i k with
    | off d => rw [hb] at h; cases h
    | on l2 m2 =>
      have e := namesD_bareL hb
      subst e
      rw [hb] at h
      simp only [bare_oAt] at h
      split at h
      · injection h with h1 h2
        subst h1; subst h2
        exact bare_meet _ _ _ _ _
      · cases h
end
end Go.Proofs.YtpajpdjjpgbklaaDoor
