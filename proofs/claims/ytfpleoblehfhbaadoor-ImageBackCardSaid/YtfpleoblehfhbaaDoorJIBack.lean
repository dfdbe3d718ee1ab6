/- What an image of a good heap means is that heap. Plain data. -/
/- append onto a row of bytes inside a fence; the block of what comes of it. -/
/- A reader of bytes: the program's. -/
import Derived.Test.YtfpleoblehfhbaaDoorJIHead
import Derived.Test.YtfpleoblehfhbaaDoorJIOld
import Derived.OwnWalkIn
set_option linter.unusedVariables false
set_option linter.unusedSimpArgs false
set_option linter.unusedSectionVars false
namespace Go.Proofs.YtfpleoblehfhbaaDoor

def thOf (L : List Nat) (b : Ob) : Th := ⟨{ b.x with cls := numL L b.x.cls }, if b.x.ptrT then b.fs.map (vnum L) else b.fs⟩
theorem valsB_map (L rs : List Nat) : valsB L rs = (rs.map (vnum L)).flatMap cnt7 := by unfold valsB; rw [List.flatMap_map]
theorem rdHd_obj {L : List Nat} (hL : L.length ≤ 1048576) {b : Ob} (K : b.Ok) (t : List Nat) :
    rdHd (cnt7 (numL L b.x.cls) ++ ([b.x.fmt + 16 * b.x.spare] ++ (cnt7 b.x.size ++ (cnt7 b.x.ser ++ t)))) = some ({ b.x with cls := numL L b.x.cls }, t) := by
  have h1 := numL_le L b.x.cls
  have h2 := K.fit.size
  have h3 := K.fit.fmt
  have h4 := K.fit.spare
  unfold rdHd
  rw [rdNum_cnt7 (by omega)]
  simp only [List.singleton_append]
  rw [rdNum_cnt7 (by omega)]
  simp only
  rw [rdNum_cnt7 K.fit.ser]
  simp only
  rw [show (b.x.fmt + 16 * b.x.spare) % 16 = b.x.fmt by omega, show (b.x.fmt + 16 * b.x.spare) / 16 = b.x.spare by omega, if_pos]
  have hm := K.may
  unfold okB Hd.may at *
  simp only [Bool.and_eq_true, Bool.or_eq_true, decide_eq_true_eq] at *
  exact ⟨hm, h4⟩
theorem rdObj_obj {L : List Nat} (hL : L.length ≤ 1048576) {b : Ob} (K : b.Ok) (hs : b.x.fmt = 2 → spareE b.fs b.x.spare = 0) (t : List Nat) : rdObj (objB' L b ++ t) = some (thOf L b, t) := by
  have e : objB' L b ++ t = cnt7 (numL L b.x.cls) ++ ([b.x.fmt + 16 * b.x.spare] ++ (cnt7 b.x.size ++ (cnt7 b.x.ser ++ (payB L b ++ t)))) := by unfold objB'; simp only [List.append_assoc]
  rw [e]
  unfold rdObj
  rw [rdHd_obj hL K]
  simp only
  have hm := K.may
  have h4 := K.fit.spare
  unfold Hd.may at hm
  simp at hm
  unfold rdFs
  by_cases h2 : b.x.fmt = 2
  · have hlen : b.x.len = 4 * b.fs.length - b.x.spare := by unfold Hd.len; rw [if_pos h2, K.size]
    have hp : payB L b = (bytesM b.fs).take (4 * b.fs.length - b.x.spare) := by unfold payB; rw [if_pos h2, hlen]
    have hpl : (payB L b).length = 4 * b.x.size - b.x.spare := by rw [hp, List.length_take, bytesM_len, K.size]; omega
    rw [if_pos h2, if_pos (by rw [List.length_append, hpl]; simp only; omega), ← hpl, List.take_left, List.drop_left, hp, packM_bytes (hs h2) (by omega) K.f32]
    unfold thOf
    rw [if_neg (by unfold Hd.ptrT; rw [h2]; decide)]
  · rw [if_neg h2]
    by_cases h3 : b.x.fmt = 3
    · have hp : payB L b = b.fs.flatMap cnt7 := by unfold payB; rw [if_neg h2, if_pos h3]
      rw [hp, K.size, rdK_all _ _ K.f32]
      unfold thOf
      rw [if_neg (by unfold Hd.ptrT; rw [h3]; decide)]
      simp only [K.size]
    · have hp : payB L b = (b.fs.map (vnum L)).flatMap cnt7 := by unfold payB; rw [if_neg h2, if_neg h3, valsB_map]
      have hk := rdK_all t (b.fs.map (vnum L)) (fun x hx => by obtain ⟨y, hy, rfl⟩ := List.mem_map.1 hx; exact vnum_lt hL (K.f32 y hy))
      rw [List.length_map] at hk
      rw [hp, K.size, hk]
      unfold thOf
      rw [if_pos (by unfold Hd.ptrT; simp; omega)]
      simp only [K.size]
theorem rdObjs_objs {L : List Nat} (hL : L.length ≤ 1048576) (t : List Nat) : ∀ l : List Ob, (∀ b ∈ l, b.Ok ∧ (b.x.fmt = 2 → spareE b.fs b.x.spare = 0)) → rdObjs l.length (objsB L l ++ t) = some (l.map (thOf L), t)
  | [], _ => rfl
  | b :: l, h => by
    obtain ⟨K, hs⟩ := h b (by simp)
    have e : objsB L (b :: l) ++ t = objB' L b ++ (objsB L l ++ t) := by unfold objsB; rw [List.flatMap_cons, List.append_assoc]
    rw [e, List.length_cons]
    unfold rdObjs
    rw [rdObj_obj hL K hs]
    simp only
    rw [rdObjs_objs hL t l (fun x hx => h x (by simp [hx]))]
    rfl
theorem placeT_posOf (L : List Nat) : ∀ l : List Ob, (∀ b ∈ l, b.Ok) → placeT (l.map (thOf L)) = posOf l
  | [], _ => rfl
  | b :: l, h => by
    have h1 := placeT_posOf L l (fun x hx => h x (by simp [hx]))
    have h2 := (h b (by simp)).size
    unfold placeT posOf at *
    rw [wsOf_cons, List.length_append, Ob.ws_len, List.map_cons, List.map_cons, List.sum_cons]
    simp only [thOf] at *
    omega
section
variable {h : HM} {l : List Ob}
theorem oopsL_getD {k : Nat} (hk : k < l.length) : (oopsL l).getD k 0 = 2 * posOf (l.take k) := by
  rw [List.getD_eq_getElem?_getD, oopsL_get hk]; rfl
theorem oopsL_mem (L : h.Laid l) {o : Nat} (ho : h.isB o = true) : o ∈ oopsL l := by
  obtain ⟨a, b, c, e, rfl⟩ := (L.isB_iff o).1 ho
  have hk : a.length < l.length := by rw [e]; simp
  have := oopsL_get hk
  rw [e, List.take_left, ← e] at this
  exact List.mem_of_getElem? this
theorem oopsL_lt (G : h.Good l) : ∀ x ∈ oopsL l, x < 4294967296 := by
  intro x hx
  unfold oopsL at hx
  obtain ⟨j, hj, rfl⟩ := List.mem_map.1 hx
  have := posOf_take_lt G j (List.mem_range.1 hj)
  have := G.fit.room
  have := G.fit.hi
  omega
/-- What is read of a good heap's payloads. -/
def imgOf (h : HM) (l : List Ob) : Img := ⟨l.map (thOf (oopsL l)), h.roots.map (vnum (oopsL l)), h.last⟩
theorem ptrT_ptrB (x : Hd) : x.ptrT = x.ptrB := rfl
theorem img_words (G : h.Good l) : (imgOf h l).words = h.words ∧ (imgOf h l).roots = h.roots ∧ (imgOf h l).wrong = false := by
  have hlen : (l.map (thOf (oopsL l))).length = (oopsL l).length := by rw [List.length_map, oopsL_len]
  have hp : ∀ k, k < (oopsL l).length → 2 * placeT ((l.map (thOf (oopsL l))).take k) = (oopsL l).getD k 0 := fun k hk => by
    rw [oopsL_len] at hk
    rw [← List.map_take, placeT_posOf _ _ (fun b hb => G.laid.ok b (List.mem_of_mem_take hb)), oopsL_getD hk]
  have h0 := oopsL_zero l
  have hc : ∀ b ∈ l, namedT (l.map (thOf (oopsL l))) (numL (oopsL l) b.x.cls) = b.x.cls ∧ wrongN (l.map (thOf (oopsL l))) (numL (oopsL l) b.x.cls) = false := fun b hb => by
    refine namedT_numL hlen hp _ (G.laid.ok b hb).fit.cls ?_ h0
    have := G.sound.cls b hb
    unfold HM.clsB at this
    rw [Bool.or_eq_true, decide_eq_true_eq] at this
    exact this.imp id (oopsL_mem G.laid)
  have hval : ∀ v, v < 4294967296 → h.valB v = true → valT (l.map (thOf (oopsL l))) (vnum (oopsL l) v) = v ∧ wrongV (l.map (thOf (oopsL l))) (vnum (oopsL l) v) = false := fun v hv hb => by
    refine valT_vnum hlen hp (oopsL_lt G) v hv ?_ h0
    unfold HM.valB at hb
    rw [Bool.or_eq_true, Bool.not_eq_true'] at hb
    rcases hb with hb | hb
    · unfold objB kindM at hb
      simp only [decide_eq_false_iff_not] at hb
      by_cases hv0 : v = 0
      · exact .inr (.inl hv0)
      · rw [if_neg hv0] at hb
        by_cases h1 : v % 2 = 1
        · exact .inl h1
        · rw [if_neg h1] at hb; exact absurd rfl hb
    · exact .inr (.inr (oopsL_mem G.laid hb))
  have hob : ∀ b ∈ l, obOf (l.map (thOf (oopsL l))) (thOf (oopsL l) b) = b ∧ wrongT (l.map (thOf (oopsL l))) (thOf (oopsL l) b) = false := fun b hb => by
    obtain ⟨c1, c2⟩ := hc b hb
    have hpt : (thOf (oopsL l) b).x.ptrT = b.x.ptrT := rfl
    have hcl : (thOf (oopsL l) b).x.cls = numL (oopsL l) b.x.cls := rfl
    by_cases hb2 : b.x.ptrT = true
    · have hf : (thOf (oopsL l) b).fs = b.fs.map (vnum (oopsL l)) := by unfold thOf; rw [if_pos hb2]
      have hv : ∀ v ∈ b.fs, valT (l.map (thOf (oopsL l))) (vnum (oopsL l) v) = v ∧ wrongV (l.map (thOf (oopsL l))) (vnum (oopsL l) v) = false := fun v hv => hval v ((G.laid.ok b hb).f32 v hv) (G.sound.flds b hb (by rw [← ptrT_ptrB]; exact hb2) v hv)
      refine ⟨?_, ?_⟩
      · unfold obOf
        rw [hpt, if_pos hb2, hcl, c1, hf, List.map_map, List.map_congr_left (f := valT (l.map (thOf (oopsL l))) ∘ vnum (oopsL l)) (g := id) (fun v hv' => (hv v hv').1), List.map_id]
        rfl
      · unfold wrongT
        rw [hcl, c2, hpt, hb2, hf, Bool.false_or, Bool.true_and, List.any_eq_false]
        intro n hn
        obtain ⟨v, hv', rfl⟩ := List.mem_map.1 hn
        rw [(hv v hv').2]
        decide
    · have hf : (thOf (oopsL l) b).fs = b.fs := by unfold thOf; rw [if_neg hb2]
      refine ⟨?_, ?_⟩
      · unfold obOf
        rw [hpt, if_neg hb2, hcl, c1, hf]
        rfl
      · unfold wrongT
        rw [hcl, c2, hpt]
        simp [hb2]
  have hrt : ∀ v ∈ h.roots, valT (l.map (thOf (oopsL l))) (vnum (oopsL l) v) = v ∧ wrongV (l.map (thOf (oopsL l))) (vnum (oopsL l) v) = false := fun v hv => hval v (G.fit.r32 v hv) (G.sound.roots v hv)
  refine ⟨?_, ?_, ?_⟩
  · unfold imgOf Img.words
    simp only
    rw [List.map_map, List.map_congr_left (f := obOf (l.map (thOf (oopsL l))) ∘ thOf (oopsL l)) (g := id) (fun b hb => (hob b hb).1), List.map_id, G.laid.words]
  · unfold imgOf Img.roots
    simp only
    rw [List.map_map, List.map_congr_left (f := valT (l.map (thOf (oopsL l))) ∘ vnum (oopsL l)) (g := id) (fun v hv => (hrt v hv).1), List.map_id]
  · unfold imgOf Img.wrong
    simp only
    rw [Bool.or_eq_false_iff, List.any_eq_false, List.any_eq_false]
    refine ⟨fun t ht => ?_, fun n hn => ?_⟩
    · obtain ⟨b, hb, rfl⟩ := List.mem_map.1 ht
      rw [(hob b hb).2]; decide
    · obtain ⟨v, hv, rfl⟩ := List.mem_map.1 hn
      rw [(hrt v hv).2]; decide
/-- A heap's payloads. -/
def payH (h : HM) (l : List Ob) : List Nat := cnt7 h.last ++ cnt7 l.length
def HM.newI (h : HM) (l : List Ob) : List Nat := [69, 70, 73, 71, 2] ++ (secI 72 (payH h l) ++ (secI 79 (objsB (oopsL l) l) ++ (secI 82 (valsB (oopsL l) h.roots) ++ secI 90 [])))
theorem objsB_le {L : List Nat} (hL : L.length ≤ 1048576) : ∀ bs : List Ob, (∀ b ∈ bs, b.Ok) → (objsB L bs).length ≤ 6 * (wsOf bs).length
  | [], _ => by simp [objsB]
  | b :: bs, h => by
    have h1 := objsB_le hL bs (fun x hx => h x (by simp [hx]))
    have h2 := objB_len hL (h b (by simp))
    unfold objsB at *
    rw [List.flatMap_cons, List.length_append, wsOf_cons, List.length_append, Ob.ws_len]
    omega
theorem parts_new (G : h.Good l) : partsM (payH h l) (objsB (oopsL l) l) (valsB (oopsL l) h.roots) [] = some (imgOf h l) := by
  have hL := oopsL_le G
  have h64 := G.fit.roots
  have hl : l.length < 4294967296 := by rw [oopsL_len] at hL; omega
  have e1 := rdNum_cnt7 hl []
  have e2 := rdObjs_objs hL [] l (fun b hb => ⟨G.laid.ok b hb, G.sound.spare b hb⟩)
  have e3 := rdK_all [] (h.roots.map (vnum (oopsL l))) (fun x hx => by obtain ⟨y, hy, rfl⟩ := List.mem_map.1 hx; exact vnum_lt hL (G.fit.r32 y hy))
  rw [List.append_nil] at e1 e2 e3
  rw [List.length_map, h64] at e3
  unfold partsM payH
  rw [rdNum_cnt7 G.fit.l32]
  simp only [e1, ne_eq, not_true_eq_false, if_false, e2]
  rw [valsB_map, e3]
  simp only [not_true_eq_false, or_self, if_false]
  rfl
theorem cnt7_len_le {n : Nat} (h : n < 4294967296) : (cnt7 n).length ≤ 5 := cnt7I_len5 h
theorem secI_len (tag : Nat) (p : List Nat) : (secI tag p).length = 5 + (cnt7 p.length).length + p.length := by
  unfold secI
  simp only [List.length_append, four4, List.length_cons, List.length_nil]
  omega
theorem pay_lens (G : h.Good l) : (payH h l).length ≤ 10 ∧ (objsB (oopsL l) l).length ≤ 6291456 ∧ (valsB (oopsL l) h.roots).length ≤ 320 := by
  have hL := oopsL_le G
  have hl : l.length < 4294967296 := by rw [oopsL_len] at hL; omega
  have h1 := cnt7_len_le G.fit.l32
  have h2 := cnt7_len_le hl
  have h3 := objsB_le hL l G.laid.ok
  have h4 := valsB_len hL h.roots G.fit.r32
  have h5 : h.words.length = 1 + (wsOf l).length := by rw [G.laid.words]; simp; omega
  have := G.fit.room
  have := G.fit.hi
  have := G.fit.roots
  unfold payH
  rw [List.length_append]
  omega
theorem newI_len (G : h.Good l) : (h.newI l).length ≤ 8388608 := by
  obtain ⟨h1, h2, h3⟩ := pay_lens G
  have a1 := cnt7_len_le (show (payH h l).length < 4294967296 by omega)
  have a2 := cnt7_len_le (show (objsB (oopsL l) l).length < 4294967296 by omega)
  have a3 := cnt7_len_le (show (valsB (oopsL l) h.roots).length < 4294967296 by omega)
  have a4 := cnt7_len_le (show ([] : List Nat).length < 4294967296 by simp)
  unfold HM.newI
  simp only [List.length_append, secI_len, List.length_cons, List.length_nil]
  simp only [List.length_nil] at a4
  omega
theorem new_new (G : h.Good l) : newM (secI 72 (payH h l) ++ (secI 79 (objsB (oopsL l) l) ++ (secI 82 (valsB (oopsL l) h.roots) ++ secI 90 []))) = .ok (imgOf h l) := by
  obtain ⟨h1, h2, h3⟩ := pay_lens G
  have e4 := rdSec_secI 90 [] [] (by simp)
  rw [List.append_nil] at e4
  unfold newM rdSecs rdSecs rdSecs rdSecs rdSecs
  rw [rdSec_secI 72 _ _ (by omega)]
  simp only
  rw [rdSec_secI 79 _ _ (by omega)]
  simp only
  rw [rdSec_secI 82 _ _ (by omega)]
  simp only
  rw [e4]
  simp only [ne_eq, not_true_eq_false, if_false, List.getD_cons_zero, List.getD_cons_succ, parts_new G]
theorem take_new (G : h.Good l) : takeR (h.newI l) = .ok ⟨2, h.words, h.roots, h.last, false⟩ := by
  have hl := newI_len G
  obtain ⟨w1, w2, w3⟩ := img_words G
  have e : h.newI l = [69, 70, 73, 71, 2] ++ (secI 72 (payH h l) ++ (secI 79 (objsB (oopsL l) l) ++ (secI 82 (valsB (oopsL l) h.roots) ++ secI 90 []))) := rfl
  have h5 : 5 ≤ (h.newI l).length := by rw [e, List.length_append]; simp
  have ht : (h.newI l).take 4 = [69, 70, 73, 71] := by rw [e]; rfl
  have hg : (h.newI l).getD 4 0 = 2 := by rw [e]; rfl
  have hd : (h.newI l).drop 5 = secI 72 (payH h l) ++ (secI 79 (objsB (oopsL l) l) ++ (secI 82 (valsB (oopsL l) h.roots) ++ secI 90 [])) := by rw [e]; rfl
  unfold takeR
  rw [if_neg (by omega), ht, hg, hd, new_new G, if_neg (by simp; omega), if_neg (by decide), if_pos rfl]
  simp only [w1, w2, w3]
  rfl
theorem words_at (A t pre : List Nat) (h : ∀ x ∈ A, x < 4294967296) (i : Nat) (hi : i < A.length) : word4 (pre ++ (wordsB A ++ t)) (pre.length + 4 * i) = A[i] := by
  have e0 : wordsB A = wordsB (A.take i) ++ (four4 A[i] ++ wordsB (A.drop (i + 1))) := by
    have e : A = A.take i ++ A[i] :: A.drop (i + 1) := by rw [List.getElem_cons_drop, List.take_append_drop]
    conv => lhs; rw [e]
    unfold wordsB
    rw [List.flatMap_append, List.flatMap_cons]
  have e1 : pre ++ (wordsB A ++ t) = (pre ++ wordsB (A.take i)) ++ (four4 A[i] ++ (wordsB (A.drop (i + 1)) ++ t)) := by
    rw [e0]; simp only [List.append_assoc]
  rw [e1]
  refine word4_four4 _ _ _ (h _ (List.getElem_mem hi)) _ ?_
  rw [List.length_append, wordsB_len, List.length_take, Nat.min_eq_left (by omega)]
theorem words_word (A t : List Nat) (h : ∀ x ∈ A, x < 4294967296) (pre : List Nat) : (List.range A.length).map (fun i => word4 (pre ++ (wordsB A ++ t)) (pre.length + 4 * i)) = A := by
  apply List.ext_getElem
  · rw [List.length_map, List.length_range]
  · intro i h1 h2
    rw [List.getElem_map, List.getElem_range]
    exact words_at A t pre h i h2
theorem oldI_len (h : HM) : h.oldI.length = 17 + 4 * h.words.length + 4 * h.roots.length := by
  unfold HM.oldI
  rw [List.length_append, oldB_len]
  simp [four4]; omega
theorem take_old (f : h.Fit) : takeR h.oldI = .ok ⟨1, h.words, h.roots, h.last, false⟩ := by
  have hl := oldI_len h
  have h64 := f.roots
  have hr := f.room
  have hhi := f.hi
  have hb := (sumN_eq (oldB_byte h)).2
  have hbl := oldB_len h
  have e : h.oldI = [69, 70, 73, 71, 1] ++ (four4 h.last ++ four4 h.words.length ++ wordsB h.words ++ wordsB h.roots ++ four4 (sumN h.oldB)) := by
    unfold HM.oldI
    conv => lhs; lhs; unfold HM.oldB
    simp only [List.append_assoc]
  have ht : h.oldI.take 4 = [69, 70, 73, 71] := by rw [e]; rfl
  have hg : h.oldI.getD 4 0 = 1 := by rw [e]; rfl
  have w5 : word4 h.oldI 5 = h.last := by
    rw [e, List.append_assoc, List.append_assoc, List.append_assoc]
    exact word4_four4 [69, 70, 73, 71, 1] _ _ f.l32 5 rfl
  have w9 : word4 h.oldI 9 = h.words.length := by
    rw [show h.oldI = ([69, 70, 73, 71, 1] ++ four4 h.last) ++ (four4 h.words.length ++ (wordsB h.words ++ wordsB h.roots ++ four4 (sumN h.oldB))) by rw [e]; simp only [List.append_assoc]]
    exact word4_four4 _ _ _ (by omega) 9 rfl
  have wS : word4 h.oldI (h.oldI.length - 4) = sumN h.oldB := by
    have := word4_four4 h.oldB (sumN h.oldB) [] hb (h.oldI.length - 4) (by rw [hl, hbl]; omega)
    rw [List.append_nil] at this
    exact this
  have hT : h.oldI.take (h.oldI.length - 4) = h.oldB := by
    rw [show h.oldI.length - 4 = h.oldB.length by rw [hl, hbl]; omega]
    unfold HM.oldI
    exact List.take_left
  have hW : (List.range h.words.length).map (fun i => word4 h.oldI (13 + 4 * i)) = h.words := by
    have := words_word h.words (wordsB h.roots ++ four4 (sumN h.oldB)) f.w32 ([69, 70, 73, 71, 1] ++ four4 h.last ++ four4 h.words.length)
    rw [show ([69, 70, 73, 71, 1] ++ four4 h.last ++ four4 h.words.length) ++ (wordsB h.words ++ (wordsB h.roots ++ four4 (sumN h.oldB))) = h.oldI by rw [e]; simp only [List.append_assoc]] at this
    exact this
  have hR : (List.range 64).map (fun i => word4 h.oldI (13 + 4 * h.words.length + 4 * i)) = h.roots := by
    have := words_word h.roots (four4 (sumN h.oldB)) f.r32 ([69, 70, 73, 71, 1] ++ four4 h.last ++ four4 h.words.length ++ wordsB h.words)
    rw [show ([69, 70, 73, 71, 1] ++ four4 h.last ++ four4 h.words.length ++ wordsB h.words) ++ (wordsB h.roots ++ (four4 (sumN h.oldB))) = h.oldI by rw [e]; simp only [List.append_assoc], h64] at this
    have e4 : ([69, 70, 73, 71, 1] ++ four4 h.last ++ four4 h.words.length ++ wordsB h.words).length = 13 + 4 * h.words.length := by simp only [List.length_append, wordsB_len, four4, List.length_cons, List.length_nil]
    rw [e4] at this
    exact this
  unfold takeR
  rw [if_neg (by omega), ht, hg, if_neg (by simp; omega), if_pos rfl]
  unfold oldM
  rw [w9, w5, wS, hT, hW, hR, if_neg (by omega), if_neg (by simp)]
end
end Go.Proofs.YtfpleoblehfhbaaDoor

namespace Go.Proofs.YtfpleoblehfhbaaDoor
open Go.RowKit
attribute [local go_sem] Oper.semAt_some
theorem wpListIn_app_RB {F : Fence} {n : Nat} {ops : Array Oper} {rest : List Oper} {o : Oper} {a : Act} {Q : Exit → Act → World → Prop} {w w2 : World} {B m c : Nat} {v : Value} {bs cs : List Nat} {A : Option Addr} (s x : Operand)
    (C : RB w2 w B v bs) (hr : Reads w w.heap.size 1 A m (u8c cs)) (hs : a.eval s = v) (hx : a.eval x = .slice A m c) (hn : bs.length + m ≤ 100000000000000)
    (ho : o.op = .call { callee := .builtin .append, args := #[s, x], argTypes := #[32, 32] }) (hgd : o.guard = none)
    (h : ∀ v' w', RB w2 w' B v' (bs ++ cs) → w.grownBy w' v.ownBlock → wpListIn F n Tryd.prog ops Q rest (a.put o.dst v') w') : wpListIn F n Tryd.prog ops Q (o :: rest) a w := by
  obtain ⟨i0, hi0, hz0, hz1, hz2⟩ := info_parts info_u8
  refine wpListIn_plain hgd fun K hK' => ?_
  obtain ⟨v', w', hrun, h2, h3, h4⟩ := run_append_any (P := Tryd.prog) w B 32 o.type 5 i0 _ 1 1 Tryd.underlying32 hi0 hz0 hz1 hz2 rfl (by omega) v bs.length (u8c bs) C.own w.heap.size A m c (u8c cs) hr (one_u8c _) (by simp only [maxLen]; omega) (by omega) C.top
  unfold Oper.wpIn
  refine ⟨?_, ?_⟩
  · simp [Oper.about, ho, resolve, Target.leads, Sem.run_pure]
  · rw [Oper.semAt_plain F _ _ (by rw [ho]; intro c hc'; cases hc')]
    simp [execOp, ho, resolve, invoke, builtin, hs, hx, hrun, Result.andThen]
    exact hK' _ _ (h _ _ (C.app (by have := hr.1; rw [u8c_len, Nat.mul_one] at this; exact this) h2 h3) h3)
/-- The same outside a fence, with the block of what comes of it. -/
theorem wpList_app_RBat {ops : Array Oper} {rest : List Oper} {o : Oper} {a : Act} {Q : Exit → Act → World → Prop} {w w2 : World} {B m c : Nat} {v : Value} {bs cs : List Nat} {A : Option Addr} (s x : Operand)
    (C : RB w2 w B v bs) (hr : Reads w w.heap.size 1 A m (u8c cs)) (hs : a.eval s = v) (hx : a.eval x = .slice A m c) (hn : bs.length + m ≤ 100000000000000)
    (ho : o.op = .call { callee := .builtin .append, args := #[s, x], argTypes := #[32, 32] }) (hgd : o.guard = none)
    (h : ∀ v' w', RB w2 w' B v' (bs ++ cs) → w.grownBy w' v.ownBlock → (v'.ownBlock = v.ownBlock ∨ v'.ownBlock = some w.heap.size) → wpList Tryd.prog ops Q rest (a.put o.dst v') w') : wpList Tryd.prog ops Q (o :: rest) a w := by
  obtain ⟨i0, hi0, hz0, hz1, hz2⟩ := info_parts info_u8
  refine wpList_append_any _ hgd s x _ ho B 5 i0 _ 1 1 Tryd.underlying32 hi0 hz0 hz1 hz2 rfl (by omega) v bs.length (u8c bs) hs C.own w.heap.size A m c (u8c cs) hx hr (one_u8c _) (by simp only [maxLen]; omega) (by omega) C.top ?_
  intro v4 w4 hown4 hgrow4 hat4
  exact h _ _ (C.app (by have := hr.1; rw [u8c_len, Nat.mul_one] at this; exact this) hown4 hgrow4) hgrow4 hat4
theorem reads_one (w : World) (x : Nat) : Reads (w.alloc (.cells #[.int .u8 (x : Int)] 5)) (w.alloc (.cells #[.int .u8 (x : Int)] 5)).heap.size 1 (some ⟨w.heap.size, 0, none⟩) 1 (u8c [x]) := by
  have h := reads_new w [x] 1 rfl
  rw [World.size_alloc]
  exact h
end Go.Proofs.YtfpleoblehfhbaaDoor

namespace Go.Proofs.YtfpleoblehfhbaaDoor
open Go.RowKit
attribute [local go_sem] Oper.semAt_some

/-- The address of a slice's rest. -/
def tailA (A : Option Addr) (c k : Nat) : Option Addr := if c = k then A else A.map (·.add (k * 1))
theorem slice_rest (w : World) (A : Option Addr) (n c k : Nat) (h : k ≤ n) : (Instr.slice 32 (.slice A n c) (some (.int .i64 k)) none none).run Tryd.prog w = .ok (.slice (tailA A c k) (n - k) (c - k)) w := by
  have he : Program.elem Tryd.prog 32 = 5 := by simp [Program.elem, Tryd.underlying32]
  have hz : ∀ w, (Go.sizeOf 5).run Tryd.prog w = .ok 1 w := fun w => by go_simp
  rw [run_slice_l (P := Tryd.prog) w 32 A n c (by rw [he]; exact Tryd.underlying32) .i64 k (by omega) (by omega), he, hz]
  simp only [Result.andThen, sliced, Int.toNat_natCast]
  rfl
theorem slice_head (w : World) (A : Option Addr) (n c k : Nat) (h : k ≤ c) : (Instr.slice 32 (.slice A n c) none (some (.int .i64 k)) none).run Tryd.prog w = .ok (.slice (tailA A c 0) k c) w := by
  have he : Program.elem Tryd.prog 32 = 5 := by simp [Program.elem, Tryd.underlying32]
  have hz : ∀ w, (Go.sizeOf 5).run Tryd.prog w = .ok 1 w := fun w => by go_simp
  rw [run_slice_h (P := Tryd.prog) w 32 A n c (by rw [he]; exact Tryd.underlying32) .i64 k (by omega) (by omega), he, hz]
  simp only [Result.andThen, sliced, Int.toNat_natCast]
  rfl
theorem reads_rest {w : World} {B n c k : Nat} {A : Option Addr} {bs : List Nat} (h : Reads w B 1 A n (u8c bs)) (hc : n ≤ c) (hk : k ≤ n) : Reads w B 1 (tailA A c k) (n - k) (u8c (bs.drop k)) := by
  have hl : bs.length = n := by have := h.1; rw [u8c_len] at this; omega
  refine ⟨by rw [u8c_len, List.length_drop]; omega, fun hn => ?_⟩
  obtain ⟨ad, e, hb, hx⟩ := h.2 (by omega)
  subst e
  unfold tailA
  rw [if_neg (by omega)]
  refine ⟨ad.add (k * 1), rfl, by rw [block_of_add]; exact hb, fun j u hu => ?_⟩
  have := hx (k + j) u (by unfold u8c at hu ⊢; rw [List.getElem?_map, List.getElem?_drop] at hu; rw [List.getElem?_map]; exact hu)
  rw [show (ad.add (k * 1)).add j = ad.add (k + j) by unfold Addr.add; by_cases hk0 : k = 0 <;> by_cases hj : j = 0 <;> simp [hk0, hj, Nat.add_assoc]]
  exact this
theorem reads_head {w : World} {B n c k : Nat} {A : Option Addr} {bs : List Nat} (h : Reads w B 1 A n (u8c bs)) (hk : k ≤ n) : Reads w B 1 (tailA A c 0) k (u8c (bs.take k)) := by
  have hl : bs.length = n := by have := h.1; rw [u8c_len] at this; omega
  refine ⟨by rw [u8c_len, List.length_take]; omega, fun hn => ?_⟩
  obtain ⟨ad, e, hb, hx⟩ := h.2 (by omega)
  subst e
  have e : tailA (some ad) c 0 = some ad := by
    unfold tailA
    split
    · rfl
    · simp [Addr.add]
  rw [e]
  refine ⟨ad, rfl, hb, fun j u hu => hx j u ?_⟩
  unfold u8c at hu ⊢
  rw [List.getElem?_map, List.getElem?_take] at hu
  rw [List.getElem?_map]
  split at hu
  · exact hu
  · cases hu
/-- A reader in memory: what it has left, and whether it is bad; the bytes lie below L. -/
structure RdAt (w : World) (L rg : Nat) (A : Option Addr) (c : Nat) (bs : List Nat) (bad : Bool) : Prop where
  box : Blk w rg 136 #[.slice A bs.length c, .bool bad]
  cap : bs.length ≤ c
  rd : Reads w L 1 A bs.length (u8c bs)
  far : L ≤ rg
  b8 : ∀ x ∈ bs, x < 256
/-- Only one block is another. -/
structure Fr1 (rg : Nat) (w w' : World) : Prop where
  os : w'.os = w.os
  tape : w'.tape = w.tape
  output : w'.output = w.output
  size : w.heap.size ≤ w'.heap.size
  same : ∀ k, k < w.heap.size → k ≠ rg → w'.heap[k]? = w.heap[k]?
theorem Fr1.refl (rg : Nat) (w : World) : Fr1 rg w w := ⟨rfl, rfl, rfl, Nat.le_refl _, fun _ _ _ => rfl⟩
theorem Fr1.trans {rg : Nat} {w w' w'' : World} (h : Fr1 rg w w') (k : Fr1 rg w' w'') : Fr1 rg w w'' :=
  ⟨k.os.trans h.os, k.tape.trans h.tape, k.output.trans h.output, Nat.le_trans h.size k.size, fun i hi hne => (k.same i (Nat.lt_of_lt_of_le hi h.size) hne).trans (h.same i hi hne)⟩
theorem Fr1.set (rg i : Nat) (w : World) (v : Value) : Fr1 rg w (w.setCell ⟨rg, i, none⟩ v) :=
  ⟨rfl, rfl, rfl, by simp [World.setCell], fun k _ hne => Below.heap_setCell w ⟨rg, i, none⟩ v k hne⟩
theorem Fr1.of_below {rg : Nat} {w w' : World} (h : Below w.heap.size w w') : Fr1 rg w w' := ⟨h.os, h.tape, h.output, h.size, fun k hk _ => h.block k hk⟩
theorem Fr1.below {rg B : Nat} {w w' : World} (h : Fr1 rg w w') (hB : B ≤ rg) (hw : B ≤ w.heap.size) : Below B w w' := ⟨h.os, h.tape, h.output, h.size, fun k hk => h.same k (by omega) (by omega)⟩
theorem RdAt.below {w w' : World} {L rg c : Nat} {A : Option Addr} {bs : List Nat} {bad : Bool} (R : RdAt w L rg A c bs bad) (h : Below w.heap.size w w') : RdAt w' L rg A c bs bad :=
  ⟨R.box.below h R.box.lt, R.cap, R.rd.below (h.mono (by have := R.far; have := R.box.lt; omega)), R.far, R.b8⟩
/-- What is left and whether it is bad, behind a reading. -/
def Rdd {α : Type} (bad : Bool) (r : Option (α × List Nat)) (v : α) (bs' : List Nat) (bad' : Bool) : Prop :=
  (bad' = false → bad = false ∧ r = some (v, bs')) ∧ (bad = false → (∃ p, r = some p) → bad' = false)
/-- The next byte. -/
def rdB : List Nat → Option (Nat × List Nat)
  | [] => none
  | x :: t => some (x, t)
def ByteP (L rg : Nat) (bs : List Nat) (bad : Bool) (w : World) (e : Ending) (w' : World) : Prop :=
  ∃ x A c bs' bad', e = .returned (.int .u8 (x : Nat)) ∧ x < 256 ∧ RdAt w' L rg A c bs' bad' ∧ Fr1 rg w w' ∧ Rdd bad (rdB bs) x bs' bad' ∧ ∃ d, bs = d ++ bs'
set_option maxRecDepth 100000 in
theorem rbyteI_any {w : World} {L rg c : Nat} {A : Option Addr} {bs : List Nat} {bad : Bool} (R : RdAt w L rg A c bs bad) (hn : bs.length ≤ 9000000) :
    Calls Tryd.prog 95 #[.pointer (some ⟨rg, 0, none⟩)] w (ByteP L rg bs bad w) := by
  have c0 := R.box.cell 0
  have c1 := R.box.cell 1
  have z0 := R.box.frozen 0
  have z1 := R.box.frozen 1
  match bs, R with
  | [], R =>
    have HF := Lib.hid (show ByteP L rg [] bad w (.returned (.int .u8 0)) (w.setCell ⟨rg, 1, none⟩ (.bool true)) from
      ⟨0, A, c, [], true, rfl, by decide, ⟨R.box.set_ 1 _, R.cap, R.rd.below (Below.setCell (Below.refl _ _) (p := ⟨rg, 1, none⟩) R.far _), R.far, R.b8⟩, Fr1.set _ _ _ _, ⟨fun h => (by cases h), fun _ h => by obtain ⟨p, hp⟩ := h; cases hp⟩, [], rfl⟩)
    go_enter Tryd.func95, Tryd.ntmps95
    go_wp2_with fail
    go_ret
    exact HF.out
  | x :: t, R =>
    have hc := R.cap
    rw [List.length_cons] at hc
    have hx := R.b8 x (by simp)
    obtain ⟨ad, hA, hb, hcl⟩ := R.rd.2 (by simp)
    subst hA
    have h0 := hcl 0 (.int .u8 (x : Nat)) (by simp [u8c])
    have e0 : ad.add 0 = ad := by simp [Addr.add]
    rw [e0] at h0
    have hsl := fun w => slice_rest w (some ad) (t.length + 1) c 1 (by omega)
    have hrr := reads_rest (k := 1) R.rd R.cap (by simp)
    have HF := Lib.hid (show ∀ A' c', tailA (some ad) c 1 = A' → c - 1 = c' → ByteP L rg (x :: t) bad w (.returned (.int .u8 (x : Nat))) (w.setCell ⟨rg, 0, none⟩ (.slice A' t.length c')) from fun A' c' hA' hc' => by
      subst hA' hc'
      exact ⟨x, tailA (some ad) c 1, c - 1, t, bad, rfl, hx, ⟨R.box.set_ 0 _, by omega, by
        have := hrr.below (Below.setCell (Below.refl _ _) (p := ⟨rg, 0, none⟩) R.far (.slice (tailA (some ad) c 1) (t.length + 1 - 1) (c - 1)))
        simpa using this, R.far, fun y hy => R.b8 y (by simp [hy])⟩, Fr1.set _ _ _ _, ⟨fun h => ⟨h, rfl⟩, fun h _ => h⟩, [x], rfl⟩)
    clear hrr R hcl hb e0
    rw [List.length_cons] at c0
    go_enter Tryd.func95, Tryd.ntmps95
    go_wp2_with fail
    all_goals go_ret
    all_goals exact HF.out _ _ (by simp [tailA, Addr.add, *]) (by omega)
end Go.Proofs.YtfpleoblehfhbaaDoor
