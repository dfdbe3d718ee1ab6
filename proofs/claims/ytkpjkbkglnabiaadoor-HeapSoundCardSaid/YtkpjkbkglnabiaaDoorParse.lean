/- Words cut into objects. Plain data. -/
import Derived.Test.YtkpjkbkglnabiaaDoorLaid
set_option linter.unusedVariables false
namespace Go.Proofs.YtkpjkbkglnabiaaDoor
open Go.RowKit


/-- Words cut into objects: the only way there is. -/
def parseF : Nat → List Nat → Option (List Ob)
  | 0, _ => none
  | _ + 1, [] => some []
  | f + 1, a :: b :: c :: r => if okhd a b c && decide ((unhd a b c).size ≤ r.length) then (parseF f (r.drop (unhd a b c).size)).map (⟨unhd a b c, r.take (unhd a b c).size⟩ :: ·) else none
  | _ + 1, _ => none
def parseT (ws : List Nat) : Option (List Ob) := parseF (ws.length + 1) ws
def parseW : List Nat → Option (List Ob)
  | 0 :: r => parseT r
  | _ => none
theorem parseF_fuel : ∀ (f g : Nat) (ws : List Nat), ws.length < f → ws.length < g → parseF f ws = parseF g ws
  | 0, _, _, h, _ => absurd h (by omega)
  | _, 0, _, _, h => absurd h (by omega)
  | f + 1, g + 1, [], _, _ => rfl
  | f + 1, g + 1, [_], _, _ => rfl
  | f + 1, g + 1, [_, _], _, _ => rfl
  | f + 1, g + 1, a :: b :: c :: r, h1, h2 => by
    unfold parseF
    split
    · rw [parseF_fuel f g _ (by simp at h1 ⊢; omega) (by simp at h2 ⊢; omega)]
    · rfl
theorem parseT_nil : parseT [] = some [] := rfl
theorem parseT_short {ws : List Nat} (h0 : ws ≠ []) (h3 : ws.length < 3) : parseT ws = none := by
  match ws, h0, h3 with
  | [_], _, _ => rfl
  | [_, _], _, _ => rfl
  | _ :: _ :: _ :: _, _, h => simp at h; omega
theorem parseT_bad {a b c : Nat} {r : List Nat} (h : okhd a b c = false) : parseT (a :: b :: c :: r) = none := by
  unfold parseT
  unfold parseF
  rw [h, Bool.false_and, if_neg (by decide)]
theorem parseT_long {a b c : Nat} {r : List Nat} (h : r.length < (unhd a b c).size) : parseT (a :: b :: c :: r) = none := by
  unfold parseT
  unfold parseF
  rw [decide_eq_false (by omega), Bool.and_false, if_neg (by decide)]
theorem parseT_ok {a b c : Nat} {r : List Nat} (h : okhd a b c = true) (hs : (unhd a b c).size ≤ r.length) :
    parseT (a :: b :: c :: r) = (parseT (r.drop (unhd a b c).size)).map (⟨unhd a b c, r.take (unhd a b c).size⟩ :: ·) := by
  unfold parseT
  conv => lhs; unfold parseF
  rw [h, decide_eq_true hs, Bool.true_and, if_pos rfl, parseF_fuel _ ((r.drop (unhd a b c).size).length + 1) _ (by simp; omega) (by omega)]
theorem Ob.ok_of {a b c : Nat} {r : List Nat} (h : okhd a b c = true) (hs : (unhd a b c).size ≤ r.length) (hb : b < 4294967296) (hc : c < 4294967296) (hr : ∀ x ∈ r, x < 4294967296) :
    Ob.Ok ⟨unhd a b c, r.take (unhd a b c).size⟩ := by
  unfold okhd at h
  rw [Bool.and_eq_true] at h
  exact ⟨⟨Nat.mod_lt _ (by omega), Nat.mod_lt _ (by omega), Nat.mod_lt _ (by omega), hb, hc⟩, h.1, by rw [List.length_take]; show (unhd a b c).size = _; omega, fun f hf => hr f (List.mem_of_mem_take hf)⟩
theorem okhd_w0 {a b c : Nat} (h : okhd a b c = true) : (unhd a b c).w0 = a := by
  unfold okhd at h
  simp only [Bool.and_eq_true, decide_eq_true_eq] at h
  have h2 := h.2
  unfold Hd.w0 unhd
  show a % 16777216 + a / 16777216 % 8 * 16777216 + a / 134217728 % 4 * 134217728 = a
  omega
theorem ws_of_parse {a b c : Nat} {r : List Nat} (h : okhd a b c = true) : (Ob.ws ⟨unhd a b c, r.take (unhd a b c).size⟩) ++ r.drop (unhd a b c).size = a :: b :: c :: r := by
  unfold Ob.ws
  show (unhd a b c).w0 :: b :: c :: r.take _ ++ r.drop _ = _
  rw [okhd_w0 h]
  simp
theorem okhd_ob {b : Ob} (k : b.Ok) : okhd b.x.w0 b.x.cls b.x.ser = true := by
  unfold okhd
  rw [unhd_ob k, k.may]
  exact (Bool.true_and _).trans (decide_eq_true (w0_lt k.fit))
theorem parseT_ob {b : Ob} (k : b.Ok) (r : List Nat) : parseT (b.ws ++ r) = (parseT r).map (b :: ·) := by
  unfold Ob.ws
  rw [List.cons_append, List.cons_append, List.cons_append, parseT_ok (okhd_ob k) (by rw [unhd_ob k, k.size]; simp), unhd_ob k, k.size, List.drop_left, List.take_left]
theorem parseT_obs {l : List Ob} (k : ∀ b ∈ l, b.Ok) (r : List Nat) : parseT (wsOf l ++ r) = (parseT r).map (l ++ ·) := by
  induction l with
  | nil => cases h : parseT r <;> simp [wsOf_nil, h]
  | cons b l ih =>
    rw [wsOf_cons, List.append_assoc, parseT_ob (k b (by simp)), ih (fun b hb => k b (List.mem_cons_of_mem _ hb)), Option.map_map]
    rfl
theorem parseW_obs {l : List Ob} (k : ∀ b ∈ l, b.Ok) : parseW (0 :: wsOf l) = some l := by
  have := parseT_obs k []
  rw [List.append_nil, parseT_nil] at this
  show parseT (wsOf l) = _
  rw [this]
  simp
theorem parseF_inv : ∀ (f : Nat) (ws : List Nat) (l : List Ob), (∀ x ∈ ws, x < 4294967296) → parseF f ws = some l → ws = wsOf l ∧ ∀ b ∈ l, b.Ok
  | 0, _, _, _, h => by cases h
  | f + 1, [], l, _, h => by cases h; exact ⟨rfl, fun _ hb => by cases hb⟩
  | f + 1, [_], l, _, h => by cases h
  | f + 1, [_, _], l, _, h => by cases h
  | f + 1, a :: b :: c :: r, l, h32, h => by
    unfold parseF at h
    split at h
    · rename_i hc
      rw [Bool.and_eq_true, decide_eq_true_eq] at hc
      rw [Option.map_eq_some_iff] at h
      obtain ⟨l', h1, rfl⟩ := h
      obtain ⟨e, k⟩ := parseF_inv f _ l' (fun x hx => h32 x (by have := List.mem_of_mem_drop hx; simp [this])) h1
      refine ⟨?_, ?_⟩
      · rw [wsOf_cons, ← e]
        exact (ws_of_parse hc.1).symm
      · intro o ho
        rcases List.mem_cons.1 ho with rfl | ho
        · exact Ob.ok_of hc.1 hc.2 (h32 b (by simp)) (h32 c (by simp)) (fun x hx => h32 x (by simp [hx]))
        · exact k o ho
    · cases h
theorem parseW_inv {ws : List Nat} {l : List Ob} (h32 : ∀ x ∈ ws, x < 4294967296) (h : parseW ws = some l) : ws = 0 :: wsOf l ∧ ∀ b ∈ l, b.Ok := by
  unfold parseW at h
  split at h
  · rename_i r
    obtain ⟨e, k⟩ := parseF_inv _ _ _ (fun x hx => h32 x (List.mem_cons_of_mem _ hx)) h
    exact ⟨by rw [← e], k⟩
  · cases h

/-- The heap that words, roots and a last serial are. -/
def HM.ofWords (size : Nat) (words roots : List Nat) (last : Nat) : HM := ⟨size, words, false :: msOf ((parseW words).getD []), roots, last⟩
/-- Whether they are one. -/
def LoadOk (size : Nat) (words roots : List Nat) (last : Nat) : Prop := ∃ l, parseW words = some l ∧ (HM.ofWords size words roots last).Sound l
theorem HM.ofWords_good {size : Nat} {words roots : List Nat} {last : Nat} {l : List Ob} (h1 : 64 ≤ size) (h2 : size ≤ 1048576) (hw : ∀ x ∈ words, x < 4294967296) (hr : ∀ x ∈ roots, x < 4294967296) (hrl : roots.length = 64)
    (hl : last < 4294967296) (hs : words.length ≤ size) (hp : parseW words = some l) (S : (HM.ofWords size words roots last).Sound l) : (HM.ofWords size words roots last).Good l := by
  obtain ⟨e, k⟩ := parseW_inv hw hp
  have e2 : (HM.ofWords size words roots last).starts = false :: msOf l := by show false :: msOf ((parseW words).getD []) = _; rw [hp]; rfl
  refine ⟨⟨h1, h2, ?_, hs, ?_, hrl, hw, hr, hl⟩, ⟨e, e2, k⟩, S⟩
  · show 1 ≤ words.length
    rw [e]; simp
  · rw [e2]
    show _ = words.length
    rw [e]; simp [msOf_len]
/-- A heap that is one is what its words are. -/
theorem HM.Good.ofWords {h : HM} {l : List Ob} (G : h.Good l) : HM.ofWords h.size h.words h.roots h.last = h ∧ parseW h.words = some l := by
  have hp : parseW h.words = some l := by rw [G.laid.words]; exact parseW_obs G.laid.ok
  refine ⟨?_, hp⟩
  unfold HM.ofWords
  rw [hp]
  show HM.mk h.size h.words (false :: msOf l) h.roots h.last = h
  rw [← G.laid.marks]
theorem HM.Good.loadOk {h : HM} {l : List Ob} (G : h.Good l) : LoadOk h.size h.words h.roots h.last := by
  obtain ⟨e, hp⟩ := G.ofWords
  exact ⟨l, hp, by rw [e]; exact G.sound⟩

/-- Going through words: the objects l are behind, the words r are ahead. -/
structure Pre (ws : List Nat) (l : List Ob) (r : List Nat) : Prop where
  eq : ws = 0 :: (wsOf l ++ r)
  ok : ∀ b ∈ l, b.Ok
theorem Pre.parse {ws r : List Nat} {l : List Ob} (p : Pre ws l r) : parseW ws = (parseT r).map (l ++ ·) := by rw [p.eq]; exact parseT_obs p.ok r
theorem Pre.len {ws r : List Nat} {l : List Ob} (p : Pre ws l r) : ws.length = posOf l + r.length := by rw [p.eq]; simp [posOf]; omega
theorem Pre.get {ws r : List Nat} {l : List Ob} (p : Pre ws l r) (j : Nat) : ws.getD (posOf l + j) 0 = r.getD j 0 := by
  rw [p.eq]
  unfold posOf
  rw [Nat.add_assoc, Nat.add_comm 1, List.getD_cons_succ, getD_app_right]
theorem Pre.next {ws r : List Nat} {l : List Ob} {a b c : Nat} (p : Pre ws l (a :: b :: c :: r)) (h32 : ∀ x ∈ ws, x < 4294967296) (h : okhd a b c = true) (hs : (unhd a b c).size ≤ r.length) :
    Pre ws (l ++ [⟨unhd a b c, r.take (unhd a b c).size⟩]) (r.drop (unhd a b c).size) := by
  have hm : ∀ x ∈ a :: b :: c :: r, x < 4294967296 := fun x hx => h32 x (by rw [p.eq]; simp at hx ⊢; right; right; exact hx)
  refine ⟨?_, fun o ho => ?_⟩
  · rw [p.eq, wsOf_app, wsOf_cons, wsOf_nil, List.append_nil, List.append_assoc, ws_of_parse h]
  · rcases List.mem_append.1 ho with ho | ho
    · exact p.ok o ho
    · simp only [List.mem_cons, List.not_mem_nil, or_false] at ho
      subst ho
      exact Ob.ok_of h hs (hm b (by simp)) (hm c (by simp)) (fun x hx => hm x (by simp [hx]))
theorem Pre.start {r : List Nat} : Pre (0 :: r) [] r := ⟨by simp [wsOf_nil], fun _ h => by cases h⟩
end Go.Proofs.YtkpjkbkglnabiaaDoor
