/- A difference is there: its way leads in both to what differs. Plain data. -/
/- No number's bytes begin another's; the first place where two rows differ. Plain data. -/
/- What two objects name held against each other, in any order. Plain data. -/
import Derived.Test.YtpajpdjjpgbklaaDoorJDiffL
set_option linter.unusedVariables false
set_option linter.unusedSectionVars false
namespace Go.Proofs.YtpajpdjjpgbklaaDoor

/-- A way from one object to another: each step names a value of the one it stands at. -/
inductive Leads (nN : Nat → Nat) (nA : Nat → Nat → Nat) (o : Nat) : List Int → Nat → Prop where
  | here : Leads nN nA o [] o
  | step {p : List Int} {q : Nat} (k : Nat) : Leads nN nA o p q → kindM q = 2 → k < nN q → Leads nN nA o (p ++ [(k : Int) - 1]) (nA q k)
/-- A list that was met: each is a beginning, or named by one ahead of it. -/
def Grown (nN : Nat → Nat) (nA : Nat → Nat → Nat) (a : List Nat) (l : List Nd) : Prop :=
  ∀ i, i < l.length → kindM (oAt l i) = 2 ∧ (((l.getD i default).par = -1 ∧ ∃ k : Nat, k < a.length ∧ (l.getD i default).fld = k ∧ oAt l i = a.getD k 0) ∨
    (∃ j k : Nat, j < i ∧ (l.getD i default).par = j ∧ (l.getD i default).fld = (k : Int) - 1 ∧ k < nN (oAt l j) ∧ oAt l i = nA (oAt l j) k))
section
variable {nN nN' : Nat → Nat} {nA nB : Nat → Nat → Nat} {od : Nat → Nat → Option (Nat × Nat)} {a b : List Nat} {l m : List Nd}
theorem Grown.nil : Grown nN nA a [] := fun i h => by simp at h
theorem oAt_old {x : Nd} {i : Nat} (hi : i < l.length) : oAt (l ++ [x]) i = oAt l i := (oAt_pre (List.prefix_append l [x]) hi).symm
theorem Grown.meet (G : Grown nN nA a l) (o : Nat) (p f : Int) (d : Nat) (h : (p = -1 ∧ ∃ k : Nat, k < a.length ∧ f = k ∧ o = a.getD k 0) ∨ (∃ j k : Nat, j < l.length ∧ p = j ∧ f = (k : Int) - 1 ∧ k < nN (oAt l j) ∧ o = nA (oAt l j) k)) :
    Grown nN nA a (meetN l o p f d) := by
  unfold meetN
  split
  case isFalse => exact G
  case isTrue hc =>
    intro i hi
    rw [List.length_append, List.length_cons, List.length_nil] at hi
    rcases Nat.lt_or_ge i l.length with h1 | h1
    · obtain ⟨hk, hx⟩ := G i h1
      rw [oAt_old h1, getD_snoc, if_pos h1]
      refine ⟨hk, hx.imp id ?_⟩
      rintro ⟨j, k, h2, h3, h4, h5, h6⟩
      exact ⟨j, k, h2, h3, h4, by rw [oAt_old (by omega)]; exact h5, by rw [oAt_old (by omega)]; exact h6⟩
    · obtain rfl : i = l.length := by omega
      have e : (l ++ [(⟨o, p, f, d⟩ : Nd)]).getD l.length default = (⟨o, p, f, d⟩ : Nd) := by rw [getD_snoc, if_neg (by omega), if_pos rfl]
      unfold oAt at *
      rw [e]
      refine ⟨hc.1, h.imp id ?_⟩
      rintro ⟨j, k, h2, h3, h4, h5, h6⟩
      refine ⟨j, k, h2, h3, h4, ?_, ?_⟩
      · rw [getD_snoc, if_pos h2]; exact h5
      · rw [getD_snoc, if_pos h2]; exact h6
theorem Grown.up (G : Grown nN nA a l) : ∀ i, i < l.length → (l.getD i default).par < (i : Int) := fun i hi => by
  rcases (G i hi).2 with ⟨h, _⟩ | ⟨j, k, h, h2, _⟩ <;> omega
/-- The way to what was met leads there. -/
theorem Grown.path (G : Grown nN nA a l) : ∀ i, i < l.length → ∃ (k : Nat) (r : List Int), k < a.length ∧ pathM l i = (k : Int) :: r ∧ Leads nN nA (a.getD k 0) r (oAt l i) := by
  intro i
  induction i using Nat.strongRecOn with
  | _ i ih =>
    intro hi
    rcases (G i hi).2 with ⟨h1, k, h2, h3, h4⟩ | ⟨j, k, h1, h2, h3, h4, h5⟩
    · refine ⟨k, [], h2, ?_, by rw [h4]; exact .here⟩
      unfold pathM pathF
      rw [if_pos (by omega), h3]
    · obtain ⟨k0, r, h6, h7, h8⟩ := ih j h1 (by omega)
      refine ⟨k0, r ++ [(k : Int) - 1], h6, ?_, ?_⟩
      · unfold pathM pathF
        rw [if_neg (by omega), h2, h3]
        have : pathF l i ((j : Int)).toNat = pathM l j := by
          rw [show ((j : Int)).toNat = j by omega]
          exact pathF_fuel G.up _ _ _ (by omega) h1 (by omega)
        rw [this, h7]
        rfl
      · rw [h5]
        exact .step k h8 (G j (by omega)).1 h4
theorem beginD_grown (hab : b.length = a.length) : ∀ {k : Nat} {l m : List Nd}, k ≤ a.length → beginD a b k = .on l m → Grown nN nA a l ∧ Grown nN' nB b m
  | 0, l, m, _, h => by unfold beginD at h; injection h with h1 h2; subst h1; subst h2; exact ⟨.nil, .nil⟩
  | k + 1, l, m, hk, h => by
    unfold beginD at h
    cases hb : beginD a b k with
    | off d => rw [hb] at h; cases h
    | on l' m' =>
      rw [hb] at h
      simp only at h
      split at h
      · injection h with h1 h2
        subst h1; subst h2
        obtain ⟨G1, G2⟩ := beginD_grown hab (by omega) hb
        exact ⟨G1.meet _ _ _ _ (.inl ⟨rfl, k, by omega, rfl, rfl⟩), G2.meet _ _ _ _ (.inl ⟨rfl, k, by omega, rfl, rfl⟩)⟩
      · cases h
theorem namesD_grown (S : Side l m) (G1 : Grown nN nA a l) (G2 : Grown nN' nB b m) {i : Nat} (hi : i < l.length) (hn : nN' (oAt m i) = nN (oAt l i)) : ∀ {k : Nat} {l' m' : List Nd}, k ≤ nN (oAt l i) → namesD nA nB l m i k = .on l' m' → Grown nN nA a l' ∧ Grown nN' nB b m'
  | 0, l', m', _, h => by unfold namesD at h; injection h with h1 h2; subst h1; subst h2; exact ⟨G1, G2⟩
  | k + 1, l', m', hk, h => by
    unfold namesD at h
    cases hb : namesD nA nB l m i k with
    | off d => rw [hb] at h; cases h
    | on l2 m2 =>
      rw [hb] at h
      simp only at h
      obtain ⟨S2, p1, p2⟩ := namesD_side S hi hb
      obtain ⟨H1, H2⟩ := namesD_grown S G1 G2 hi hn (by omega) hb
      split at h
      · injection h with h1 h2
        subst h1; subst h2
        have e1 := oAt_pre p1 hi
        have e2 := oAt_pre p2 (show i < m.length by rw [S.len]; exact hi)
        refine ⟨H1.meet _ _ _ _ (.inr ⟨i, k, Nat.lt_of_lt_of_le hi p1.length_le, rfl, rfl, ?_, ?_⟩), H2.meet _ _ _ _ (.inr ⟨i, k, Nat.lt_of_lt_of_le (by rw [S.len]; exact hi) p2.length_le, rfl, rfl, ?_, ?_⟩)⟩
        · rw [← e1]; omega
        · rw [← e1]
        · rw [← e2, hn]; omega
        · rw [← e2]
      · cases h
/-- What a difference tells: its way leads in both heaps to two values that differ so. -/
def Tells (nN nN' : Nat → Nat) (nA nB : Nat → Nat → Nat) (od : Nat → Nat → Option (Nat × Nat)) (a b : List Nat) (d : Df) : Prop :=
  ∃ (k : Nat) (r : List Int) (u v : Nat), k < a.length ∧ d.path = (k : Int) :: r ∧ Leads nN nA (a.getD k 0) r u ∧ Leads nN' nB (b.getD k 0) r v ∧
    ((∃ l m, d.kind = pairK l m u v) ∨ (kindM u = 2 ∧ kindM v = 2 ∧ od u v = some (d.kind, d.at_)))
theorem beginD_tells (hab : b.length = a.length) : ∀ {k : Nat} {d : Df}, k ≤ a.length → beginD a b k = .off d → Tells nN nN' nA nB od a b d
  | 0, d, _, h => by cases h
  | k + 1, d, hk, h => by
    unfold beginD at h
    cases hb : beginD a b k with
    | off d' => rw [hb] at h; injection h with h; subst h; exact beginD_tells hab (by omega) hb
    | on l m =>
      rw [hb] at h
      simp only at h
      split at h
      · cases h
      · injection h with h
        subst h
        exact ⟨k, [], _, _, by omega, rfl, .here, .here, .inl ⟨l, m, rfl⟩⟩
theorem namesD_tells (S : Side l m) (G1 : Grown nN nA a l) (G2 : Grown nN' nB b m) (hab : b.length = a.length) {i : Nat} (hi : i < l.length) (hn : nN' (oAt m i) = nN (oAt l i)) : ∀ {k : Nat} {d : Df}, k ≤ nN (oAt l i) → namesD nA nB l m i k = .off d → Tells nN nN' nA nB od a b d
  | 0, d, _, h => by cases h
  | k + 1, d, hk, h => by
    unfold namesD at h
    cases hb : namesD nA nB l m i k with
    | off d' => rw [hb] at h; injection h with h; subst h; exact namesD_tells S G1 G2 hab hi hn (by omega) hb
    | on l2 m2 =>
      rw [hb] at h
      simp only at h
      split at h
      · cases h
      · injection h with h
        subst h
        obtain ⟨k0, r, h1, h2, h3⟩ := G1.path i hi
        obtain ⟨k1, r1, h4, h5, h6⟩ := G2.path i (by rw [S.len]; exact hi)
        rw [pathM_side S hi, h2] at h5
        injection h5 with e1 e2
        subst e2
        obtain rfl : k0 = k1 := by omega
        exact ⟨k0, r ++ [(k : Int) - 1], _, _, h1, by rw [h2]; rfl, .step k h3 (G1 i hi).1 (by omega), .step k h6 (G2 i (by rw [S.len]; exact hi)).1 (by omega), .inl ⟨l2, m2, rfl⟩⟩
theorem loopD_tells (hab : b.length = a.length) (hn : ∀ o q, od o q = none → nN' q = nN o) : ∀ (f i : Nat) {l m : List Nd}, Side l m → Grown nN nA a l → Grown nN' nB b m → (loopD nN nA nB od f i l m).kind ≠ 0 → Tells nN nN' nA nB od a b (loopD nN nA nB od f i l m)
  | 0, _, _, _, _, _, _, h => by simp [loopD] at h
  | f + 1, i, l, m, S, G1, G2, h => by
    by_cases hi : i < l.length
    · cases hr : roundD nN nA nB od l m i with
      | off d =>
        rw [loopD_off hi hr]
        unfold roundD at hr
        cases ho : od (oAt l i) (oAt m i) with
        | some x =>
          rw [ho] at hr
          injection hr with hr
          subst hr
          obtain ⟨k0, r, h1, h2, h3⟩ := G1.path i hi
          obtain ⟨k1, r1, h4, h5, h6⟩ := G2.path i (by rw [S.len]; exact hi)
          rw [pathM_side S hi, h2] at h5
          injection h5 with e1 e2
          subst e2
          obtain rfl : k0 = k1 := by omega
          exact ⟨k0, r, _, _, h1, h2, h3, h6, .inr ⟨(G1 i hi).1, (G2 i (by rw [S.len]; exact hi)).1, ho⟩⟩
        | none =>
          rw [ho] at hr
          exact namesD_tells S G1 G2 hab hi (hn _ _ ho) (Nat.le_refl _) hr
      | on l' m' =>
        rw [loopD_on hi hr] at h ⊢
        have S2 := (roundD_side S hi hr).1
        unfold roundD at hr
        cases ho : od (oAt l i) (oAt m i) with
        | some x => rw [ho] at hr; cases hr
        | none =>
          rw [ho] at hr
          obtain ⟨H1, H2⟩ := namesD_grown S G1 G2 hi (hn _ _ ho) (Nat.le_refl _) hr
          exact loopD_tells hab hn f (i + 1) S2 H1 H2 h
    · rw [loopD_end hi] at h; exact absurd rfl h
theorem diffD_tells (hab : b.length = a.length) (hn : ∀ o q, od o q = none → nN' q = nN o) (h : (diffD nN nA nB od a b).kind ≠ 0) : Tells nN nN' nA nB od a b (diffD nN nA nB od a b) := by
  unfold diffD at h ⊢
  cases hb : beginD a b a.length with
  | off d => exact beginD_tells hab (Nat.le_refl _) hb
  | on l m =>
    rw [hb] at h
    obtain ⟨G1, G2⟩ := beginD_grown (nN := nN) (nN' := nN') (nA := nA) (nB := nB) hab (Nat.le_refl _) hb
    exact loopD_tells hab hn _ _ (beginD_side hb) G1 G2 h
/-- No difference has no way. -/
theorem loopD_none (h0 : ∀ o q k x, od o q = some (k, x) → k ≠ 0) : ∀ (f i : Nat) (l m : List Nd), (loopD nN nA nB od f i l m).kind = 0 → loopD nN nA nB od f i l m = ⟨0, [], 0⟩
  | 0, _, _, _, _ => rfl
  | f + 1, i, l, m, h => by
    by_cases hi : i < l.length
    · cases hr : roundD nN nA nB od l m i with
      | off d => rw [loopD_off hi hr] at h; exact absurd h (roundD_kind h0 hr)
      | on l' m' => rw [loopD_on hi hr] at h ⊢; exact loopD_none h0 f _ _ _ h
    · exact loopD_end hi
theorem diffD_none (h0 : ∀ o q k x, od o q = some (k, x) → k ≠ 0) (h : (diffD nN nA nB od a b).kind = 0) : diffD nN nA nB od a b = ⟨0, [], 0⟩ := by
  unfold diffD at h ⊢
  cases hb : beginD a b a.length with
  | off d => rw [hb] at h; exact absurd h (beginD_kind hb)
  | on l m => rw [hb] at h; exact loopD_none h0 _ _ _ _ h
end
end Go.Proofs.YtpajpdjjpgbklaaDoor

namespace Go.Proofs.YtpajpdjjpgbklaaDoor

theorem cnt7_ne (x : Nat) : cnt7 x ≠ [] := by
  by_cases h : x < 128
  · rw [cnt7_small h]; simp
  · rw [cnt7_big h]; simp
/-- No number's bytes begin another's. -/
theorem cnt7_pre : ∀ (x y : Nat) (s t : List Nat), cnt7 x ++ s = cnt7 y ++ t → x = y ∧ s = t := by
  intro x
  induction x using Nat.strongRecOn with
  | _ x ih =>
    intro y s t h
    by_cases hx : x < 128
    · by_cases hy : y < 128
      · rw [cnt7_small hx, cnt7_small hy] at h
        simp only [List.cons_append, List.nil_append, List.cons.injEq] at h
        exact h
      · rw [cnt7_small hx, cnt7_big hy] at h
        simp only [List.cons_append, List.nil_append, List.cons.injEq] at h
        omega
    · by_cases hy : y < 128
      · rw [cnt7_big hx, cnt7_small hy] at h
        simp only [List.cons_append, List.nil_append, List.cons.injEq] at h
        omega
      · rw [cnt7_big hx, cnt7_big hy] at h
        simp only [List.cons_append, List.cons.injEq] at h
        obtain ⟨h1, h2⟩ := ih (x / 128) (by omega) (y / 128) s t h.2
        exact ⟨by omega, h2⟩
theorem flat_pre {f g : Nat → Nat} : ∀ {xs ys : List Nat} {s t : List Nat}, xs.length = ys.length → xs.flatMap (fun k => cnt7 (f k)) ++ s = ys.flatMap (fun k => cnt7 (g k)) ++ t →
    (∀ k, k < xs.length → f (xs.getD k 0) = g (ys.getD k 0)) ∧ s = t
  | [], [], s, t, _, h => ⟨fun k hk => by simp at hk, h⟩
  | x :: xs, y :: ys, s, t, hl, h => by
    rw [List.flatMap_cons, List.flatMap_cons, List.append_assoc, List.append_assoc] at h
    obtain ⟨h1, h2⟩ := cnt7_pre _ _ _ _ h
    obtain ⟨h3, h4⟩ := flat_pre (by simpa using hl) h2
    refine ⟨fun k hk => ?_, h4⟩
    cases k with
    | zero => exact h1
    | succ k => exact h3 k (by simpa using hk)
  | [], y :: ys, _, _, hl, _ => by simp at hl
  | x :: xs, [], _, _, hl, _ => by simp at hl
theorem flat_same {f g : Nat → Nat} : ∀ {xs ys : List Nat}, xs.length = ys.length → (∀ k, k < xs.length → f (xs.getD k 0) = g (ys.getD k 0)) → xs.flatMap (fun k => cnt7 (f k)) = ys.flatMap (fun k => cnt7 (g k))
  | [], [], _, _ => rfl
  | x :: xs, y :: ys, hl, h => by
    rw [List.flatMap_cons, List.flatMap_cons, show f x = g y from h 0 (by simp), flat_same (xs := xs) (ys := ys) (by simpa using hl) (fun k hk => h (k + 1) (by simpa using hk))]
  | [], y :: ys, hl, _ => by simp at hl
  | x :: xs, [], hl, _ => by simp at hl
theorem objs_pre {F G : Nat → List Nat} {R : Nat → Nat → Prop} (hF : ∀ o, F o ≠ []) (hG : ∀ o, G o ≠ []) : ∀ {xs ys : List Nat}, (∀ o ∈ xs, ∀ q ∈ ys, ∀ s t, F o ++ s = G q ++ t → R o q ∧ s = t) → xs.flatMap F = ys.flatMap G →
    ys.length = xs.length ∧ ∀ k, k < xs.length → R (xs.getD k 0) (ys.getD k 0)
  | [], [], _, _ => ⟨rfl, fun k hk => by simp at hk⟩
  | x :: xs, y :: ys, hp, h => by
    rw [List.flatMap_cons, List.flatMap_cons] at h
    obtain ⟨h1, h2⟩ := hp x (List.mem_cons_self ..) y (List.mem_cons_self ..) _ _ h
    obtain ⟨h3, h4⟩ := objs_pre hF hG (fun o ho q hq => hp o (List.mem_cons_of_mem _ ho) q (List.mem_cons_of_mem _ hq)) h2
    refine ⟨by simp [h3], fun k hk => ?_⟩
    cases k with
    | zero => exact h1
    | succ k => exact h4 k (by simpa using hk)
  | [], y :: ys, _, h => by
    rw [List.flatMap_nil, List.flatMap_cons] at h
    exact absurd (List.append_eq_nil_iff.1 h.symm).1 (hG y)
  | x :: xs, [], _, h => by
    rw [List.flatMap_nil, List.flatMap_cons] at h
    exact absurd (List.append_eq_nil_iff.1 h).1 (hF x)
theorem objs_same {F G : Nat → List Nat} : ∀ {xs ys : List Nat}, ys.length = xs.length → (∀ k, k < xs.length → F (xs.getD k 0) = G (ys.getD k 0)) → xs.flatMap F = ys.flatMap G
  | [], [], _, _ => rfl
  | x :: xs, y :: ys, hl, h => by
    rw [List.flatMap_cons, List.flatMap_cons, show F x = G y from h 0 (by simp), objs_same (xs := xs) (ys := ys) (by simpa using hl) (fun k hk => h (k + 1) (by simpa using hk))]
  | [], y :: ys, hl, _ => by simp at hl
  | x :: xs, [], hl, _ => by simp at hl
/-- The first place at which two rows differ. -/
def firstD (n : Nat) (v w : Nat → Nat) : Option Nat := (List.range n).find? fun k => decide (v k ≠ w k)
theorem firstD_none {n : Nat} {v w : Nat → Nat} : firstD n v w = none ↔ ∀ k, k < n → v k = w k := by
  unfold firstD
  rw [List.find?_eq_none]
  simp
theorem firstD_some {n : Nat} {v w : Nat → Nat} {k : Nat} (h : firstD n v w = some k) : k < n ∧ v k ≠ w k := by
  unfold firstD at h
  have h1 := List.find?_some h
  have h2 := List.mem_of_find?_eq_some h
  exact ⟨by simpa using h2, by simpa using h1⟩
theorem firstD_swap (n : Nat) (v w : Nat → Nat) : firstD n w v = firstD n v w := by
  unfold firstD
  congr 1
  funext k
  simp only [ne_eq, eq_comm]
theorem firstD_first {n k : Nat} {v w : Nat → Nat} (hk : k < n) (h : v k ≠ w k) (hb : ∀ j, j < k → v j = w j) : firstD n v w = some k := by
  unfold firstD
  rw [List.find?_eq_some_iff_getElem]
  refine ⟨by simpa using h, k, by simpa using hk, by simp, fun j hj => by simpa using hb j hj⟩
end Go.Proofs.YtpajpdjjpgbklaaDoor

namespace Go.Proofs.YtpajpdjjpgbklaaDoor

/-- What two objects name held against each other, in any order. -/
def stepD (nA nB : Nat → Nat → Nat) (o u : Nat) (i : Nat) (path : List Int) : Two2 → Nat → Two2
  | .off d, _ => .off d
  | .on l m, k => if pairK l m (nA o k) (nB u k) = 0 then .on (meetN l (nA o k) i ((k : Int) - 1) 0) (meetN m (nB u k) i ((k : Int) - 1) 0) else .off ⟨pairK l m (nA o k) (nB u k), path ++ [(k : Int) - 1], 0⟩
def namesP (nA nB : Nat → Nat → Nat) (l m : List Nd) (i : Nat) (pre : List Nat) : Two2 := pre.foldl (stepD nA nB (oAt l i) (oAt m i) i (pathM l i)) (.on l m)
section
variable {nA nB : Nat → Nat → Nat} {l m l' m' : List Nd} {i k : Nat} {pre : List Nat}
theorem namesP_snoc (pre : List Nat) (k : Nat) : namesP nA nB l m i (pre ++ [k]) = stepD nA nB (oAt l i) (oAt m i) i (pathM l i) (namesP nA nB l m i pre) k := by
  unfold namesP; rw [List.foldl_append]; rfl
theorem namesP_on (h : namesP nA nB l m i pre = .on l' m') (hp : pairK l' m' (nA (oAt l i) k) (nB (oAt m i) k) = 0) :
    namesP nA nB l m i (pre ++ [k]) = .on (meetN l' (nA (oAt l i) k) i ((k : Int) - 1) 0) (meetN m' (nB (oAt m i) k) i ((k : Int) - 1) 0) := by
  rw [namesP_snoc, h]; unfold stepD; simp only [hp, if_true]
theorem namesP_off (h : namesP nA nB l m i pre = .on l' m') (hp : pairK l' m' (nA (oAt l i) k) (nB (oAt m i) k) ≠ 0) :
    namesP nA nB l m i (pre ++ [k]) = .off ⟨pairK l' m' (nA (oAt l i) k) (nB (oAt m i) k), pathM l i ++ [(k : Int) - 1], 0⟩ := by
  rw [namesP_snoc, h]; unfold stepD; simp only [hp, if_false]
theorem namesP_range : ∀ k, namesP nA nB l m i (List.range k) = namesD nA nB l m i k
  | 0 => rfl
  | k + 1 => by
    rw [List.range_succ, namesP_snoc, namesP_range k]
    conv => rhs; unfold namesD
    cases namesD nA nB l m i k <;> rfl
theorem fin_vals (n : Nat) : (List.finRange n).map (·.1) = List.range n := by
  apply List.ext_getElem
  · simp
  · intro j h1 h2; simp
theorem fin_pre {n : Nat} {pre : List (Fin n)} (h : pre <+: List.finRange n) : pre.map (·.1) = List.range pre.length ∧ pre.length ≤ n := by
  have hl := h.length_le
  rw [List.length_finRange] at hl
  refine ⟨?_, hl⟩
  obtain ⟨r, hr⟩ := h
  have h2 := congrArg (fun x : List (Fin n) => (x.map (·.1)).take pre.length) hr
  simp only [fin_vals, List.map_append] at h2
  rw [List.take_left' (by simp)] at h2
  rw [h2]
  apply List.ext_getElem
  · simp; omega
  · intro j h1 h3; simp
theorem namesD_bareL {L m : List Nd} {i : Nat} : ∀ {k : Nat} {l' m' : List Nd}, namesD nA nB (bare L) m i k = .on l' m' → l' = bare (meetK nA L i k)
  | 0, l', m', h => by unfold namesD at h; injection h with h1 h2; subst h1; subst h2; rfl
  | k + 1, l', m', h => by
    unfold namesD at h
    cases hb : namesD nA nB (bare L) m i k with
    | off d => rw [hb] at h; cases h
    | on l2 m2 =>
      have e := namesD_bareL hb
      subst e
      rw [hb] at h
      simp only [bare_oAt] at h
      split at h
      · injection h with h1 h2
        subst h1; subst h2
        exact bare_meet _ _ _ _ _
      · cases h
end
end Go.Proofs.YtpajpdjjpgbklaaDoor
