/- What is unlike of two objects; the canonical bytes are the same just if the graphs are alike; a difference's way can be followed. Plain data. -/
/- compare.contents: the fields of a Bytes or Words object. -/
import Derived.Test.YtpajpdjjpgbklaaDoorJLoad2
import Derived.Test.YtpajpdjjpgbklaaDoorJCanK
import Derived.Test.YtpajpdjjpgbklaaDoorJCmpE
import Derived.Test.YtpajpdjjpgbklaaDoorJTellsM
import Derived.Test.YtpajpdjjpgbklaaDoorJPackB
set_option linter.unusedVariables false
set_option linter.unusedSectionVars false
namespace Go.Proofs.YtpajpdjjpgbklaaDoor
open Go.RowKit

/-- What is unlike of two objects ahead of what they name: its kind, a place. -/
def HM.odM (g h : HM) (ser : Bool) (o q : Nat) : Option (Nat × Nat) :=
  if (g.hd (o / 2)).fmt ≠ (h.hd (q / 2)).fmt ∨ (g.hd (o / 2)).size ≠ (h.hd (q / 2)).size ∨ (g.hd (o / 2)).spare ≠ (h.hd (q / 2)).spare then some (3, 0)
  else if ser = true ∧ (g.hd (o / 2)).ser ≠ (h.hd (q / 2)).ser then some (4, 0)
  else if (g.hd (o / 2)).ptrB = true then none
  else (firstD (g.hd (o / 2)).size (fw g o) (fw h q)).map fun k => (5, k)
theorem odM_none {g h : HM} {ser : Bool} {o q : Nat} : g.odM h ser o q = none ↔
    (g.hd (o / 2)).fmt = (h.hd (q / 2)).fmt ∧ (g.hd (o / 2)).size = (h.hd (q / 2)).size ∧ (g.hd (o / 2)).spare = (h.hd (q / 2)).spare ∧ (ser = true → (g.hd (o / 2)).ser = (h.hd (q / 2)).ser) ∧
      ((g.hd (o / 2)).ptrB = false → ∀ k, k < (g.hd (o / 2)).size → fw g o k = fw h q k) := by
  unfold HM.odM
  split
  · rename_i hc
    simp only [reduceCtorEq, false_iff]
    rintro ⟨h1, h2, h3, _⟩
    rcases hc with h | h | h <;> contradiction
  · rename_i hc
    have h1 : (g.hd (o / 2)).fmt = (h.hd (q / 2)).fmt := Decidable.byContradiction fun e => hc (.inl e)
    have h2 : (g.hd (o / 2)).size = (h.hd (q / 2)).size := Decidable.byContradiction fun e => hc (.inr (.inl e))
    have h3 : (g.hd (o / 2)).spare = (h.hd (q / 2)).spare := Decidable.byContradiction fun e => hc (.inr (.inr e))
    split
    · rename_i hs
      simp only [reduceCtorEq, false_iff]
      rintro ⟨_, _, _, h4, _⟩
      exact hs.2 (h4 hs.1)
    · rename_i hs
      have h4 : ser = true → (g.hd (o / 2)).ser = (h.hd (q / 2)).ser := fun e => Decidable.byContradiction fun e2 => hs ⟨e, e2⟩
      split
      · rename_i hp
        simp only [true_iff]
        exact ⟨h1, h2, h3, h4, fun e => by rw [hp] at e; cases e⟩
      · rename_i hp
        rw [Option.map_eq_none_iff, firstD_none]
        constructor
        · intro hf; exact ⟨h1, h2, h3, h4, fun _ => hf⟩
        · rintro ⟨_, _, _, _, hf⟩; exact hf (by simpa using hp)
theorem odM_swap (g h : HM) (ser : Bool) (o q : Nat) : h.odM g ser q o = g.odM h ser o q := by
  unfold HM.odM
  by_cases hc : (g.hd (o / 2)).fmt ≠ (h.hd (q / 2)).fmt ∨ (g.hd (o / 2)).size ≠ (h.hd (q / 2)).size ∨ (g.hd (o / 2)).spare ≠ (h.hd (q / 2)).spare
  · rw [if_pos hc, if_pos (by
      rcases hc with h | h | h
      · exact .inl (Ne.symm h)
      · exact .inr (.inl (Ne.symm h))
      · exact .inr (.inr (Ne.symm h)))]
  · have h1 : (g.hd (o / 2)).fmt = (h.hd (q / 2)).fmt := Decidable.byContradiction fun e => hc (.inl e)
    have h2 : (g.hd (o / 2)).size = (h.hd (q / 2)).size := Decidable.byContradiction fun e => hc (.inr (.inl e))
    rw [if_neg hc, if_neg (by
      rintro (h | h | h)
      · exact hc (.inl (Ne.symm h))
      · exact hc (.inr (.inl (Ne.symm h)))
      · exact hc (.inr (.inr (Ne.symm h))))]
    have hp : (h.hd (q / 2)).ptrB = (g.hd (o / 2)).ptrB := by unfold Hd.ptrB; rw [h1]
    rw [hp, h2, firstD_swap]
    by_cases hs : ser = true ∧ (g.hd (o / 2)).ser ≠ (h.hd (q / 2)).ser
    · rw [if_pos hs, if_pos ⟨hs.1, Ne.symm hs.2⟩]
    · rw [if_neg hs, if_neg (fun e => hs ⟨e.1, Ne.symm e.2⟩)]
theorem odM_self (g : HM) (ser : Bool) (o : Nat) : g.odM g ser o o = none := odM_none.2 ⟨rfl, rfl, rfl, fun _ => rfl, fun _ _ _ => rfl⟩
theorem odM_trans {g h k : HM} {ser : Bool} (o q t : Nat) (h1 : g.odM h ser o q = none) (h2 : h.odM k ser q t = none) : g.odM k ser o t = none := by
  obtain ⟨a1, a2, a3, a4, a5⟩ := odM_none.1 h1
  obtain ⟨b1, b2, b3, b4, b5⟩ := odM_none.1 h2
  refine odM_none.2 ⟨a1.trans b1, a2.trans b2, a3.trans b3, fun e => (a4 e).trans (b4 e), fun e i hi => (a5 e i hi).trans (b5 ?_ i (by omega))⟩
  unfold Hd.ptrB at e ⊢
  rw [← a1]; exact e
theorem odM_kind {g h : HM} {ser : Bool} (o q k x : Nat) (e : g.odM h ser o q = some (k, x)) : k ≠ 0 := by
  unfold HM.odM at e
  split at e
  · injection e with e; injection e with e1; omega
  · split at e
    · injection e with e; injection e with e1; omega
    · split at e
      · cases e
      · cases hf : firstD (g.hd (o / 2)).size (fw g o) (fw h q) with
        | none => rw [hf] at e; cases e
        | some j => rw [hf] at e; injection e with e; injection e with e1; omega
theorem odM_nm {g h : HM} {ser : Bool} (o q : Nat) (e : g.odM h ser o q = none) : h.nmN q = g.nmN o := by
  obtain ⟨a1, a2, _⟩ := odM_none.1 e
  unfold HM.nmN Hd.ptrB
  rw [a1, a2]

theorem oops_oAt (l : List Nd) (k : Nat) : (oopsOf l).getD k 0 = oAt l k := by
  unfold oopsOf oAt
  simp only [List.getD_eq_getElem?_getD, List.getElem?_map]
  cases l[k]? <;> rfl
theorem smallV_inj {v u : Nat} (hv : v < 4294967296) (hu : u < 4294967296) (h1 : kindM v = 1) (h2 : kindM u = 1) (h : smallV v = smallV u) : v = u := by
  have a1 : v % 2 = 1 := by unfold kindM at h1; split at h1 <;> (try split at h1) <;> omega
  have a2 : u % 2 = 1 := by unfold kindM at h2; split at h2 <;> (try split at h2) <;> omega
  unfold smallV at h
  split at h <;> split at h <;> omega
theorem zig_inj {m n : Int} (h : zig m = zig n) : m = n := by
  by_cases hm : 0 ≤ m
  · have a := zig_pos hm
    by_cases hn : 0 ≤ n
    · have b := zig_pos hn; omega
    · have b := zig_neg hn; omega
  · have a := zig_neg hm
    by_cases hn : 0 ≤ n
    · have b := zig_pos hn; omega
    · have b := zig_neg hn; omega
theorem zig_odd (m : Int) : zig m % 2 = 1 := by
  by_cases hm : 0 ≤ m
  · have a := zig_pos hm; omega
  · have a := zig_neg hm; omega
theorem kindM_cases (v : Nat) : kindM v = 0 ∨ kindM v = 1 ∨ kindM v = 2 := by unfold kindM; split <;> (try split) <;> simp
theorem refM_none {l : List Nd} {v : Nat} (h : kindM v = 0) : refM l v = 0 := by unfold refM; rw [if_pos h]
theorem refM_obj {l : List Nd} {v : Nat} (h : kindM v = 2) : refM l v = 2 * numF l v := by unfold refM; rw [if_neg (by omega), if_pos h]
theorem refM_small {l : List Nd} {v : Nat} (h : kindM v = 1) : refM l v = zig (smallV v) := by unfold refM; rw [if_neg (by omega), if_neg (by omega)]
theorem refM_pair {l m : List Nd} {v u : Nat} (hv : v < 4294967296) (hu : u < 4294967296) (hl : kindM v = 2 → v ∈ oopsOf l) (hm : kindM u = 2 → u ∈ oopsOf m) : refM l v = refM m u ↔ pairK l m v u = 0 := by
  rw [pairK_zero]
  have z1 := zig_odd (smallV v)
  have z2 := zig_odd (smallV u)
  rcases kindM_cases v with h0 | h1 | h2
  · rw [refM_none h0]
    rcases kindM_cases u with k0 | k1 | k2
    · rw [refM_none k0]; simp [h0, k0]
    · rw [refM_small k1]; constructor
      · intro e; omega
      · rintro ⟨e, _⟩; omega
    · rw [refM_obj k2]; have := numF_pos.2 (hm k2); constructor
      · intro e; omega
      · rintro ⟨e, _⟩; omega
  · rw [refM_small h1]
    rcases kindM_cases u with k0 | k1 | k2
    · rw [refM_none k0]; constructor
      · intro e; omega
      · rintro ⟨e, _⟩; omega
    · rw [refM_small k1]; constructor
      · intro e; exact ⟨by omega, fun _ => smallV_inj hv hu h1 k1 (zig_inj e), fun e2 => by omega⟩
      · rintro ⟨_, e, _⟩; rw [e h1]
    · rw [refM_obj k2]; constructor
      · intro e; omega
      · rintro ⟨e, _⟩; omega
  · rw [refM_obj h2]
    have p1 := numF_pos.2 (hl h2)
    rcases kindM_cases u with k0 | k1 | k2
    · rw [refM_none k0]; constructor
      · intro e; omega
      · rintro ⟨e, _⟩; omega
    · rw [refM_small k1]; constructor
      · intro e; omega
      · rintro ⟨e, _⟩; omega
    · rw [refM_obj k2]; constructor
      · intro e; exact ⟨by omega, fun e2 => by omega, fun _ => by omega⟩
      · rintro ⟨_, _, e⟩; rw [e h2]

/-- What an object of a good heap is. -/
theorem good_at {h : HM} {ls : List Ob} (G : h.Good ls) {o : Nat} (hi : h.isB o = true) : ∃ b ∈ ls, h.hd (o / 2) = b.x ∧ h.fields o = b.fs ∧ b.Ok ∧ ∀ j, j < b.fs.length → fw h o j = b.fs.getD j 0 := by
  obtain ⟨a, b, c, rfl, rfl⟩ := (G.laid.isB_iff o).1 hi
  have L := G.laid
  refine ⟨b, by simp, ?_, L.fields_at, L.ok_at, fun j hj => L.f_at j hj⟩
  rw [half_pos]; exact L.hd_at
theorem good_fmt {h : HM} {ls : List Ob} (G : h.Good ls) {o : Nat} (hi : h.isB o = true) : (h.hd (o / 2)).fmt = 1 ∨ (h.hd (o / 2)).fmt = 2 ∨ (h.hd (o / 2)).fmt = 3 ∨ (h.hd (o / 2)).fmt = 4 := by
  obtain ⟨b, _, e, _, ok, _⟩ := good_at G hi
  have := ok.may
  rw [e]
  unfold Hd.may at this
  simp at this
  omega
theorem headB_pre {g h : HM} {ser : Bool} {o q : Nat} {s t : List Nat} (e : g.headB ser o ++ s = h.headB ser q ++ t) :
    (g.hd (o / 2)).fmt = (h.hd (q / 2)).fmt ∧ (g.hd (o / 2)).size = (h.hd (q / 2)).size ∧ (g.hd (o / 2)).spare = (h.hd (q / 2)).spare ∧ (ser = true → (g.hd (o / 2)).ser = (h.hd (q / 2)).ser) ∧ s = t := by
  unfold HM.headB HM.serB at e
  simp only [List.cons_append, List.nil_append, List.append_assoc, List.cons.injEq] at e
  obtain ⟨e1, e2, e3⟩ := e
  obtain ⟨e4, e5⟩ := cnt7_pre _ _ _ _ e3
  cases ser
  · exact ⟨e1, e4, e2, (fun x => by cases x), by simpa using e5⟩
  · rw [if_pos rfl, if_pos rfl] at e5
    obtain ⟨e6, e7⟩ := cnt7_pre _ _ _ _ e5
    exact ⟨e1, e4, e2, fun _ => e6, e7⟩
theorem contB_pre {g h : HM} {lg lh : List Ob} (Gg : g.Good lg) (Gh : h.Good lh) {o q : Nat} (ho : g.isB o = true) (hq : h.isB q = true) (hf : (g.hd (o / 2)).fmt = (h.hd (q / 2)).fmt) (hz : (g.hd (o / 2)).size = (h.hd (q / 2)).size)
    (hp : (g.hd (o / 2)).spare = (h.hd (q / 2)).spare) {s t : List Nat} (e : g.contB o ++ s = h.contB q ++ t) : ((g.hd (o / 2)).ptrB = false → ∀ k, k < (g.hd (o / 2)).size → fw g o k = fw h q k) ∧ s = t := by
  have hfm := good_fmt Gg ho
  unfold HM.contB at e
  rw [← hf, ← hz] at e
  by_cases h3 : (g.hd (o / 2)).fmt = 3
  · rw [if_pos h3, if_pos h3] at e
    unfold HM.cwB at e
    obtain ⟨h1, h2⟩ := flat_pre (f := fw g o) (g := fw h q) rfl e
    refine ⟨fun _ k hk => ?_, h2⟩
    have := h1 k (by simpa using hk)
    rw [List.getD_eq_getElem?_getD, List.getElem?_range hk] at this
    exact this
  · rw [if_neg h3, if_neg h3] at e
    by_cases h2 : (g.hd (o / 2)).fmt = 2
    · rw [if_pos h2, if_pos h2] at e
      obtain ⟨b, hb, e1, e2, k1, e3⟩ := good_at Gg ho
      obtain ⟨c, hc, f1, f2, k2, f3⟩ := good_at Gh hq
      have r1 := bytes_room Gg ho h2
      have r2 := bytes_room Gh hq (by omega)
      have hlen : (g.hd (o / 2)).len = (h.hd (q / 2)).len := by unfold Hd.len; rw [hf, hz, hp]
      unfold HM.bytesL at e
      obtain ⟨h4, h5⟩ := List.append_inj e (by rw [List.length_take, List.length_take]; omega)
      refine ⟨fun _ k hk => ?_, h5⟩
      have hfs : b.fs = c.fs := by
        rw [e2, f2] at h4
        have s1 := Gg.sound.spare b hb (by rw [← e1]; exact h2)
        have s2 := Gh.sound.spare c hc (by rw [← f1]; omega)
        have p1 := packM_bytes s1 (by have := k1.fit.spare; omega) k1.f32
        have p2 := packM_bytes s2 (by have := k2.fit.spare; omega) k2.f32
        have l1 : (g.hd (o / 2)).len = 4 * b.fs.length - b.x.spare := by unfold Hd.len; rw [if_pos h2, e1, k1.size]
        have l2 : (h.hd (q / 2)).len = 4 * c.fs.length - c.x.spare := by unfold Hd.len; rw [if_pos (by omega), f1, k2.size]
        rw [← p1, ← p2, ← l1, ← l2, h4]
      have z1 := k1.size
      rw [e1] at hk
      rw [e3 k (by omega), f3 k (by rw [← hfs]; omega), hfs]
    · rw [if_neg h2, if_neg h2] at e
      refine ⟨fun hpf => ?_, by simpa using e⟩
      unfold Hd.ptrB at hpf
      simp at hpf
      omega
theorem contB_same {g h : HM} {lg lh : List Ob} (Gg : g.Good lg) (Gh : h.Good lh) {o q : Nat} (ho : g.isB o = true) (hq : h.isB q = true) (hf : (g.hd (o / 2)).fmt = (h.hd (q / 2)).fmt) (hz : (g.hd (o / 2)).size = (h.hd (q / 2)).size)
    (hp : (g.hd (o / 2)).spare = (h.hd (q / 2)).spare) (hc : (g.hd (o / 2)).ptrB = false → ∀ k, k < (g.hd (o / 2)).size → fw g o k = fw h q k) : g.contB o = h.contB q := by
  unfold HM.contB
  rw [← hf, ← hz]
  by_cases h3 : (g.hd (o / 2)).fmt = 3
  · rw [if_pos h3, if_pos h3]
    unfold HM.cwB
    refine flat_same (f := fw g o) (g := fw h q) rfl (fun k hk => ?_)
    have hk' : k < (g.hd (o / 2)).size := by simpa using hk
    rw [List.getD_eq_getElem?_getD, List.getElem?_range hk']
    exact hc (by unfold Hd.ptrB; simp [h3]) k hk'
  · rw [if_neg h3, if_neg h3]
    by_cases h2 : (g.hd (o / 2)).fmt = 2
    · rw [if_pos h2, if_pos h2]
      obtain ⟨b, hb, e1, e2, k1, e3⟩ := good_at Gg ho
      obtain ⟨c, hcm, f1, f2, k2, f3⟩ := good_at Gh hq
      have hlen : (g.hd (o / 2)).len = (h.hd (q / 2)).len := by unfold Hd.len; rw [hf, hz, hp]
      have z1 := k1.size
      have z2 := k2.size
      rw [e1, f1] at hz
      have hfs : b.fs = c.fs := by
        apply List.ext_getElem?
        intro k
        rcases Nat.lt_or_ge k b.fs.length with hk | hk
        · have := hc (by unfold Hd.ptrB; simp [h2]) k (by rw [e1]; omega)
          rw [e3 k hk, f3 k (by omega), List.getD_eq_getElem?_getD, List.getD_eq_getElem?_getD, List.getElem?_eq_getElem hk, List.getElem?_eq_getElem (by omega)] at this
          rw [List.getElem?_eq_getElem hk, List.getElem?_eq_getElem (by omega)]
          simpa using this
        · rw [List.getElem?_eq_none hk, List.getElem?_eq_none (by omega)]
      unfold HM.bytesL
      rw [hlen, e2, f2, hfs]
    · rw [if_neg h2, if_neg h2]

section
variable {g h : HM} {lg lh : List Ob} {ser : Bool} {a b : List Nat} {L M : List Nd}
theorem names_mem {i : Nat} (W : GWell g L) (hi : i < L.length) : g.isB (oAt L i) = true := by
  refine W.2.2.1 _ ?_
  rw [← oops_oAt, List.getD_eq_getElem?_getD, List.getElem?_eq_getElem (by rw [oopsOf_len]; exact hi)]
  exact List.getElem_mem _
theorem mem_at {x : Nat} (hx : x ∈ oopsOf L) : ∃ i, i < L.length ∧ x = oAt L i := by
  obtain ⟨i, hi, e⟩ := List.getElem_of_mem hx
  rw [oopsOf_len] at hi
  refine ⟨i, hi, ?_⟩
  rw [← oops_oAt, List.getD_eq_getElem?_getD, List.getElem?_eq_getElem (by rw [oopsOf_len]; exact hi), ← e]
  rfl
/-- The canonical bytes are the same just if the graphs are alike. -/
theorem canon_alike (Gg : g.Good lg) (Gh : h.Good lh) (hL : seenM g.nmN g.nmAt a = some L) (hM : seenM h.nmN h.nmAt b = some M) (WL : GWell g L) (WM : GWell h M) (hab : b.length = a.length)
    (ha : ∀ x ∈ a, x < 4294967296) (hb : ∀ x ∈ b, x < 4294967296) : canonM g ser a L = canonM h ser b M ↔ Alike g.nmN g.nmAt h.nmAt (g.odM h ser) L M a b := by
  have hgetA : ∀ k, k < a.length → a.getD k 0 < 4294967296 := fun k hk => ha _ (by rw [List.getD_eq_getElem?_getD, List.getElem?_eq_getElem hk]; exact List.getElem_mem _)
  have hgetB : ∀ k, k < b.length → b.getD k 0 < 4294967296 := fun k hk => hb _ (by rw [List.getD_eq_getElem?_getD, List.getElem?_eq_getElem hk]; exact List.getElem_mem _)
  have frP : ∀ k, k < a.length → (refM L (a.getD k 0) = refM M (b.getD k 0) ↔ pairK L M (a.getD k 0) (b.getD k 0) = 0) := fun k hk =>
    refM_pair (hgetA k hk) (hgetB k (by omega)) (seen_fr hL hk) (seen_fr hM (by omega))
  have nmP : ∀ i, i < L.length → i < M.length → ∀ k, k < g.nmN (oAt L i) → k < h.nmN (oAt M i) → (refM L (g.nmAt (oAt L i) k) = refM M (h.nmAt (oAt M i) k) ↔ pairK L M (g.nmAt (oAt L i) k) (h.nmAt (oAt M i) k) = 0) := fun i hi hiM k hk hkM =>
    refM_pair (HM.nmAt_lt Gg.fit _ _) (HM.nmAt_lt Gh.fit _ _) (seen_nm hL hi hk) (seen_nm hM hiM hkM)
  constructor
  · intro e
    unfold canonM refsB at e
    obtain ⟨h1, h2⟩ := flat_pre (f := fun x => refM L (id x)) (g := fun x => refM M (id x)) hab.symm e
    have h3 := objs_pre (R := fun o q => g.odM h ser o q = none ∧ ∀ k, k < g.nmN o → refM L (g.nmAt o k) = refM M (h.nmAt q k)) (F := g.objC ser L) (G := h.objC ser M)
      (fun o => by unfold HM.objC HM.headB; simp) (fun o => by unfold HM.objC HM.headB; simp) (xs := oopsOf L) (ys := oopsOf M) (fun o ho q hq s t e => by
        have io := WL.2.2.1 o ho
        have iq := WM.2.2.1 q hq
        unfold HM.objC refsB at e
        rw [List.append_assoc, List.append_assoc, List.append_assoc, List.append_assoc] at e
        obtain ⟨e1, e2, e3, e4, e5⟩ := headB_pre e
        have hnm : h.nmN q = g.nmN o := by unfold HM.nmN Hd.ptrB; rw [e1, e2]
        rw [hnm] at e5
        obtain ⟨e6, e7⟩ := flat_pre (f := fun k => refM L (g.nmAt o k)) (g := fun k => refM M (h.nmAt q k)) rfl e5
        obtain ⟨e8, e9⟩ := contB_pre Gg Gh io iq e1 e2 e3 e7
        refine ⟨⟨odM_none.2 ⟨e1, e2, e3, e4, e8⟩, fun k hk => ?_⟩, e9⟩
        have := e6 k (by simpa using hk)
        rw [List.getD_eq_getElem?_getD, List.getElem?_range hk] at this
        exact this) h2
    rw [oopsOf_len, oopsOf_len] at h3
    refine ⟨fun k hk => (frP k hk).1 (h1 k hk), h3.1, fun i hi => ?_, fun i hi k hk => ?_⟩
    · have := (h3.2 i hi).1
      rwa [oops_oAt, oops_oAt] at this
    · have := h3.2 i hi
      rw [oops_oAt, oops_oAt] at this
      exact (nmP i hi (by omega) k hk (by rw [odM_nm _ _ this.1]; exact hk)).1 (this.2 k hk)
  · intro A
    unfold canonM refsB
    rw [flat_same (f := fun x => refM L (id x)) (g := fun x => refM M (id x)) (xs := a) (ys := b) hab.symm (fun k hk => (frP k hk).2 (A.fr k hk))]
    congr 1
    refine objs_same (by rw [oopsOf_len, oopsOf_len]; exact A.len) (fun i hi => ?_)
    rw [oopsOf_len] at hi
    rw [oops_oAt, oops_oAt]
    have io := names_mem WL hi
    have iq := names_mem WM (show i < M.length by rw [A.len]; exact hi)
    obtain ⟨e1, e2, e3, e4, e5⟩ := odM_none.1 (A.od i hi)
    have hnm := odM_nm _ _ (A.od i hi)
    have hhd : g.headB ser (oAt L i) = h.headB ser (oAt M i) := by
      unfold HM.headB HM.serB
      rw [e1, e2, e3]
      cases ser
      · rfl
      · rw [e4 rfl]
    unfold HM.objC refsB
    rw [hhd, contB_same Gg Gh io iq e1 e2 e3 e5, hnm]
    congr 2
    refine flat_same (f := fun k => refM L (g.nmAt (oAt L i) k)) (g := fun k => refM M (h.nmAt (oAt M i) k)) rfl (fun k hk => ?_)
    have hk' : k < g.nmN (oAt L i) := by simpa using hk
    rw [List.getD_eq_getElem?_getD, List.getElem?_range hk']
    exact (nmP i hi (by rw [A.len]; exact hi) k hk' (by rw [hnm]; exact hk')).2 (A.nm i hi k hk')
end

/-- A way that leads can be followed. -/
theorem followS_app {h : HM} (r : List Int) : ∀ (p : List Int) (o q : Nat), h.followS o p = (q, 0) → h.followS o (p ++ r) = h.followS q r
  | [], o, q, e => by unfold HM.followS at e; injection e with e1; subst e1; rfl
  | i :: p, o, q, e => by
    rw [List.cons_append]
    by_cases hi : h.isB o = true
    · by_cases h1 : i = -1
      · subst h1
        rw [followS_cls hi] at e ⊢
        exact followS_app r p _ q e
      · by_cases he : h.lookE o i [1, 4] = 0
        · rw [followS_get hi h1 he] at e ⊢
          exact followS_app r p _ q e
        · rw [followS_err hi h1 he] at e; injection e with _ e2; exact absurd e2 he
    · rw [followS_no (by simpa using hi)] at e; injection e with _ e2; omega
theorem valB_obj {h : HM} {o : Nat} (hv : h.valB o = true) (h2 : kindM o = 2) : h.isB o = true := by
  unfold HM.valB objB at hv
  simpa [h2] using hv
theorem leads_follow {h : HM} {ls : List Ob} (G : h.Good ls) {o : Nat} (ho : h.valB o = true) {p : List Int} {q : Nat} (L : Leads h.nmN h.nmAt o p q) : h.followS o p = (q, 0) ∧ h.valB q = true := by
  induction L with
  | here => exact ⟨rfl, ho⟩
  | @step p q k _ h2 hk ih =>
    obtain ⟨e, hv⟩ := ih
    have hi := valB_obj hv h2
    obtain ⟨b, hb, e1, e2, ok, e3⟩ := good_at G hi
    rw [followS_app _ _ _ _ e]
    cases k with
    | zero =>
      have hc : h.nmAt q 0 = (h.hd (q / 2)).cls := rfl
      rw [hc, show (((0 : Nat) : Int) - 1) = -1 from rfl, followS_cls hi]
      refine ⟨rfl, ?_⟩
      have := G.sound.cls b hb
      rw [← e1] at this
      unfold HM.clsB at this
      unfold HM.valB
      simp only [Bool.or_eq_true, decide_eq_true_eq] at this
      rcases this with h0 | h0
      · rw [h0]; rfl
      · simp [h0]
    | succ j =>
      have hp : (h.hd (q / 2)).ptrB = true ∧ j < (h.hd (q / 2)).size := by
        unfold HM.nmN at hk
        split at hk
        · rename_i hp; exact ⟨hp, by omega⟩
        · omega
      have hfm : (h.hd (q / 2)).fmt = 1 ∨ (h.hd (q / 2)).fmt = 4 := by have := hp.1; unfold Hd.ptrB at this; simpa using this
      have hln : (h.hd (q / 2)).len = (h.hd (q / 2)).size := by unfold Hd.len; rw [if_neg (by omega)]
      have he : h.lookE q (j : Int) [1, 4] = 0 := by
        unfold HM.lookE
        rw [hi, if_neg (by decide), if_neg (by rcases hfm with e | e <;> rw [e] <;> decide), if_neg (by omega)]
      rw [show (((j + 1 : Nat) : Int) - 1) = (j : Int) by omega, followS_get hi (by omega) he]
      have hat : h.nmAt q (j + 1) = fw h q j := rfl
      rw [hat, show ((j : Int)).toNat = j by omega]
      refine ⟨rfl, ?_⟩
      have hz := ok.size
      have hj : j < b.fs.length := by rw [← hz, ← e1]; exact hp.2
      have := G.sound.flds b hb (by rw [← e1]; exact hp.1) (fw h q j) (by
        rw [e3 j hj, List.getD_eq_getElem?_getD, List.getElem?_eq_getElem hj]
        exact List.getElem_mem _)
      exact this
end Go.Proofs.YtpajpdjjpgbklaaDoor

namespace Go.Proofs.YtpajpdjjpgbklaaDoor
open Go.RowKit
attribute [local go_sem] Oper.semAt_some

def ContP (h : HM) (o : Nat) (w : World) (e : Ending) (w' : World) : Prop :=
  ∃ v, e = .returned v ∧ w'.ownsRow w.heap.size 24 1 v (h.fields o).length (u32s (h.fields o)) ∧ Below w.heap.size w w'
def hdC (X : Hd) : Array Value := #[.int .i64 X.size, .int .i64 X.fmt, .int .i64 X.spare, .int .u32 X.cls, .int .u32 X.ser]
theorem fields_fw {h : HM} {ls : List Ob} (G : h.Good ls) {o : Nat} (hi : h.isB o = true) {k : Nat} (hk : k < (h.hd (o / 2)).size) : (h.fields o).take (k + 1) = (h.fields o).take k ++ [fw h o k] := by
  obtain ⟨b, hb, e1, e2, ok, e3⟩ := good_at G hi
  have hk2 : k < b.fs.length := by have := ok.size; rw [e1] at hk; omega
  rw [e2, List.take_add_one, List.getElem?_eq_getElem hk2, e3 k hk2, List.getD_eq_getElem?_getD, List.getElem?_eq_getElem hk2]
  rfl
theorem fields_all {h : HM} {ls : List Ob} (G : h.Good ls) {o : Nat} (hi : h.isB o = true) : (h.fields o).take (h.hd (o / 2)).size = h.fields o := by
  obtain ⟨b, hb, e1, e2, ok, e3⟩ := good_at G hi
  rw [e2, e1, ok.size, List.take_length]
theorem pack_good {h : HM} {ls : List Ob} (G : h.Good ls) {o : Nat} (hi : h.isB o = true) (h2 : (h.hd (o / 2)).fmt = 2) : packM ((bytesM (h.fields o)).take (h.hd (o / 2)).len) = h.fields o ∧ (h.hd (o / 2)).len ≤ 262140 ∧ ∀ x ∈ (bytesM (h.fields o)).take (h.hd (o / 2)).len, x < 256 := by
  obtain ⟨b, hb, e1, e2, K, e3⟩ := good_at G hi
  have hlen : (h.hd (o / 2)).len = 4 * b.fs.length - b.x.spare := by unfold Hd.len; rw [if_pos h2, e1, K.size]
  refine ⟨by rw [hlen, e2]; exact packM_bytes (G.sound.spare b hb (by rw [← e1]; exact h2)) (by have := K.fit.spare; omega) K.f32, ?_, fun x hx => ?_⟩
  · have hm := K.may
    unfold Hd.may at hm
    simp at hm
    have := K.size
    omega
  · obtain ⟨y, _, hy⟩ := List.mem_flatMap.1 (List.mem_of_mem_take hx)
    simp [bytes4] at hy
    omega
set_option maxRecDepth 100000 in
set_option maxHeartbeats 4000000 in
theorem contents_bytes {w : World} {p : HP} {h : HM} {ls : List Ob} (H : HAt w p h) (G : h.Good ls) (hh : h.Heads) (hs : Spares w) (o : Nat) (ho : o < 4294967296) (hi : h.isB o = true) (h2 : (h.hd (o / 2)).fmt = 2) (X : Hd) (hf : X.fmt = (h.hd (o / 2)).fmt) :
    Calls Tryd.prog 103 #[ptr p.g, .int .u32 o, X.val] w (ContP h o w) := by
  have f := G.fit
  have hb0 : Below w.heap.size w (w.alloc (.cells (hdC X) 55)) := (Below.refl _ _).alloc (Nat.le_refl _) _
  have HBY := Lib.hid (bytes_any (H.below hb0) f hh (hs.below hb0) o ho)
  have HB0 := Lib.hid hb0
  have HBE := Lib.hid (good_bytesE G hi h2)
  have HBR := Lib.hid (bytes_room G hi h2)
  have HFD := Lib.hid (pack_good G hi h2)
  unfold hdC at HBY HB0
  unfold ptr at HBY
  unfold ptr Hd.val
  have e2 : ((X.fmt : Int) == 2) = true := by rw [hf, h2]; rfl
  clear H hs hb0 h2 hi hf
  generalize hX : h.hd (o / 2) = Y at *
  have HX := Lib.hid hX
  clear hX
  go_enter Tryd.func103, Tryd.ntmps103
  go_wp2_with fail
  refine HBY.out.mono ?_
  rintro e w1 ⟨hb1, hby⟩
  rw [if_pos HBE.out, HX.out] at hby
  obtain ⟨gy, cy, rfl, hrow, hgy⟩ := hby
  have HPK := Lib.hid (packBytes_any (c := Y.len) (some ⟨gy, 0, none⟩) Y.len w1.heap.size _ HFD.out.2.1 (bytesP_reads hrow HBR.out) (Nat.le_refl _) HFD.out.2.2)
  have HB1 := Lib.hid (below_top HB0.out hb1)
  clear hrow hb1
  go_wp2_with fail
  refine HPK.out.mono ?_
  rintro e w2 ⟨g2, rfl, hrow2, hge2, hb2⟩
  rw [HFD.out.1] at hrow2 ⊢
  have HB2 := Lib.hid (below_top HB1.out hb2)
  have HOW := Lib.hid (show w2.ownsRow w.heap.size 24 1 (.slice (some ⟨g2, 0, none⟩) (h.fields o).length (h.fields o).length) (h.fields o).length (u32s (h.fields o)) from by
    obtain ⟨cur, hb, hl, hm, hc, hx⟩ := hrow2
    rw [u32s_len] at hl
    exact ⟨by simp [u32s_len], .inr ⟨g2, _, cur, rfl, Nat.le_trans HB1.out.size hge2, hb, by simp, hm, by simpa using hc, by rw [u32s_len] at hx; simp [hx]⟩⟩)
  clear hrow2 hb2 hge2 HPK
  go_wp2_with fail
  go_ret
  exact ⟨_, rfl, HOW.out, HB2.out⟩
set_option maxRecDepth 100000 in
set_option maxHeartbeats 4000000 in
theorem contents_words {w : World} {p : HP} {h : HM} {ls : List Ob} (H : HAt w p h) (G : h.Good ls) (hh : h.Heads) (hs : Spares w) (o : Nat) (ho : o < 4294967296) (hi : h.isB o = true) (h3 : (h.hd (o / 2)).fmt = 3) (X : Hd) (hf : X.fmt = (h.hd (o / 2)).fmt) (hz : X.size = (h.hd (o / 2)).size) :
    Calls Tryd.prog 103 #[ptr p.g, .int .u32 o, X.val] w (ContP h o w) := by
  have f := G.fit
  have hb0 : Below w.heap.size w (w.alloc (.cells (hdC X) 55)) := (Below.refl _ _).alloc (Nat.le_refl _) _
  have HWD := Lib.hid (fun (wr : World) (hb : Below w.heap.size w wr) (k : Nat) (hk : k < X.size) => word_good (H.below hb) f hh (hs.below hb) ho hi h3 (show k < (h.hd (o / 2)).size by omega))
  have HFW := Lib.hid (fun k (hk : k < X.size) => fields_fw G hi (show k < (h.hd (o / 2)).size by omega))
  have HFA := Lib.hid (show (h.fields o).take X.size = h.fields o by rw [hz]; exact fields_all G hi)
  have hsz : X.size ≤ 1048576 := by rw [hz]; exact hd_size_le f (HM.isB_hd hh hi)
  have HFL := Lib.hid (show (h.fields o).length = X.size by rw [hz]; exact HM.fields_len (HM.isB_hd hh hi))
  have HB0 := Lib.hid hb0
  have HFWL := Lib.hid (fun k => HM.fw_lt f o k)
  unfold hdC at HB0
  unfold ptr at HWD
  unfold ptr Hd.val
  have e2 : ((X.fmt : Int) == 2) = false := by rw [hf, h3]; rfl
  clear H hs hb0 h3 hi hf hz
  obtain ⟨i0, hi0, hz0, hz1, hz2⟩ := info_parts info_u32
  go_enter Tryd.func103, Tryd.ntmps103
  go_wp2_with fail
  go_loopw [7, 31] (fun v i wr => ∃ k : Nat, k ≤ X.size ∧ i = .int .i64 k ∧ wr.ownsRow w.heap.size 24 1 v k (u32s ((h.fields o).take k)) ∧ Below w.heap.size w wr) (fun _ i _ => X.size - (intOf i).toNat)
  case atStart => exact ⟨0, by omega, rfl, ⟨rfl, .inl ⟨rfl, rfl⟩⟩, HB0.out⟩
  case round =>
    clear HB0
    obtain ⟨k, hk, rfl, hown, hb⟩ := hrel
    by_cases hlt : k < X.size
    · have HB := Lib.hid hb
      have HOW := Lib.hid hown
      have HWK := Lib.hid (HWD.out wr hb k hlt)
      have HF1 := Lib.hid (HFW.out k hlt)
      have hvl := HFWL.out k
      clear hb hown
      generalize fw h o k = v at *
      go_wp2_with fail
      refine HWK.out.mono ?_
      rintro e w1 ⟨rfl, hb1⟩
      have HB1 := Lib.hid (below_top HB.out hb1)
      have HOW1 := Lib.hid (own_same HOW.out (fun q hq => hb1.block q (HOW.out.lt q hq).2))
      have hBw : w.heap.size ≤ w1.heap.size := HB1.out.size
      clear HWK hb1 HB HOW
      go_wp2_with (at_builtin; refine wpList_append_any _ rfl (.tmp 41) (.tmp 43) _ rfl w.heap.size 24 i0 _ 1 4 Tryd.underlying22 hi0 hz0 hz1 hz2 rfl (by omega) u7 k _ rfl (HOW1.out.alloc _) (w1.heap.size + 1) (some ⟨w1.heap.size, 0, none⟩) 1 1 (u32s [v]) rfl ⟨rfl, fun _ => ⟨_, rfl, by simp, cell_one_new _ _ _⟩⟩ (one_u32s _) (by simp only [maxLen]; omega) (by omega) (by simp; omega) ?_; intro v1 w5 hown5 hgrow hat5)
      go_roundw
      case rel =>
        refine ⟨k + 1, by omega, by go_num, ?_, ?_⟩
        · rw [HF1.out]
          unfold u32s at hown5 ⊢
          rw [List.map_append]
          exact hown5
        · have hba := (Below.refl w1.heap.size w1).alloc (Nat.le_refl _) (.cells #[.int .u32 v] 24)
          have hb2 := below_top HB1.out hba
          refine ⟨hgrow.os.trans hb2.os, hgrow.tape.trans hb2.tape, hgrow.output.trans hb2.output, Nat.le_trans hb2.size hgrow.size, fun q hq => (hgrow.block q (Nat.lt_of_lt_of_le hq hb2.size) (fun e => ?_)).trans (hb2.block q hq)⟩
          have := (HOW1.out.lt q e.symm).1
          omega
      case measure => simp [intOf]; omega
    · obtain rfl : k = X.size := by omega
      have HOW := Lib.hid hown
      have HB := Lib.hid hb
      rw [HFA.out] at HOW
      clear hown hb hlt hk
      go_wp2_with fail
      go_ret
      exact ⟨_, rfl, by rw [HFL.out]; exact HOW.out, HB.out⟩
theorem contents_any {w : World} {p : HP} {h : HM} {ls : List Ob} (H : HAt w p h) (G : h.Good ls) (hh : h.Heads) (hs : Spares w) (o : Nat) (ho : o < 4294967296) (hi : h.isB o = true) (hp : (h.hd (o / 2)).ptrB = false) (X : Hd) (hf : X.fmt = (h.hd (o / 2)).fmt) (hz : X.size = (h.hd (o / 2)).size) :
    Calls Tryd.prog 103 #[ptr p.g, .int .u32 o, X.val] w (ContP h o w) := by
  have hfm := good_fmt G hi
  have hf2 : (h.hd (o / 2)).fmt = 2 ∨ (h.hd (o / 2)).fmt = 3 := by unfold Hd.ptrB at hp; simp at hp; omega
  rcases hf2 with h2 | h3
  · exact contents_bytes H G hh hs o ho hi h2 X hf
  · exact contents_words H G hh hs o ho hi h3 X hf hz
end Go.Proofs.YtpajpdjjpgbklaaDoor
