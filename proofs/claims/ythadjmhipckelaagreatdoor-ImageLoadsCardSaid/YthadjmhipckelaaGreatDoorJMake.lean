import Derived.Test.YthadjmhipckelaaGreatDoorJAlloc
import Derived.Test.YthadjmhipckelaaGreatDoorJCopy
import Derived.Test.YthadjmhipckelaaGreatDoorJLook
set_option linter.unusedVariables false
set_option linter.unusedSectionVars false
namespace Go.Proofs.YthadjmhipckelaaGreatDoor
section
open Go.RowKit
end
section
open Go.RowKit
structure Ob where
 x : Hd
 fs : List Nat
def Ob.ws (b : Ob) : List Nat := b.x.w0 :: b.x.cls :: b.x.ser :: b.fs
def Ob.ms (b : Ob) : List Bool := true :: List.replicate (2 + b.fs.length) false
structure Ob.Ok (b : Ob) : Prop where
 fit : b.x.Fit
 may : b.x.may = true
 size : b.x.size = b.fs.length
 f32 : ∀ f ∈ b.fs, f < 4294967296
def wsOf (l : List Ob) : List Nat := l.flatMap Ob.ws
def msOf (l : List Ob) : List Bool := l.flatMap Ob.ms
def posOf (a : List Ob) : Nat := 1 + (wsOf a).length
structure HM.Laid (h : HM) (l : List Ob) : Prop where
 words : h.words = 0 :: wsOf l
 marks : h.starts = false :: msOf l
 ok : ∀ b ∈ l, b.Ok
theorem Ob.ws_len (b : Ob) : b.ws.length = 3 + b.fs.length := by simp [Ob.ws]; omega
theorem Ob.ms_len (b : Ob) : b.ms.length = 3 + b.fs.length := by simp [Ob.ms]; omega
theorem wsOf_nil : wsOf [] = [] := rfl
theorem wsOf_cons (b : Ob) (l : List Ob) : wsOf (b :: l) = b.ws ++ wsOf l := rfl
theorem wsOf_app (a b : List Ob) : wsOf (a ++ b) = wsOf a ++ wsOf b := List.flatMap_append
theorem msOf_app (a b : List Ob) : msOf (a ++ b) = msOf a ++ msOf b := List.flatMap_append
theorem msOf_cons (b : Ob) (l : List Ob) : msOf (b :: l) = b.ms ++ msOf l := rfl
theorem msOf_len (l : List Ob) : (msOf l).length = (wsOf l).length := by
 induction l with
 | nil => rfl
 | cons b l ih => simp [msOf_cons, wsOf_cons, b.ws_len, b.ms_len, ih]
theorem posOf_snoc (a : List Ob) (b : Ob) : posOf (a ++ [b]) = posOf a + 3 + b.fs.length := by
 simp [posOf, wsOf_app, wsOf_cons, wsOf_nil, b.ws_len]; omega
theorem mark_iff (l : List Ob) (i : Nat) : (msOf l).getD i false = true ↔ ∃ a b c, l = a ++ b :: c ∧ i = (wsOf a).length := by
 induction l generalizing i with
 | nil => simp [msOf]
 | cons b l ih =>
   rw [msOf_cons]
   by_cases h0 : i = 0
   ·subst h0
    exact ⟨fun _ => ⟨[], b, l, rfl, rfl⟩, fun _ => by simp [Ob.ms]⟩
   ·by_cases h1 : i < b.ms.length
    ·constructor
     ·intro h
      rw [List.getD_eq_getElem?_getD, List.getElem?_append_left h1] at h
      obtain ⟨j, rfl⟩ : ∃ j, i = j + 1 := ⟨i - 1, by omega⟩
      unfold Ob.ms at h
      rw [List.getElem?_cons_succ] at h
      have hj : j < 2 + b.fs.length := by rw [b.ms_len] at h1; omega
      simp [hj] at h
     ·rintro ⟨a, b', c, he, rfl⟩
      cases a with
      | nil => exact absurd rfl h0
      | cons a0 a =>
        rw [List.cons_append] at he
        injection he with h2 h3
        subst h2
        simp [wsOf_cons, b.ws_len, b.ms_len] at h1
        omega
    ·rw [List.getD_eq_getElem?_getD, List.getElem?_append_right (by omega), ← List.getD_eq_getElem?_getD, ih]
     constructor
     ·rintro ⟨a, b', c, rfl, h2⟩
      refine ⟨b :: a, b', c, rfl, ?_⟩
      rw [wsOf_cons, List.length_append, b.ws_len, ← h2, b.ms_len]
      rw [b.ms_len] at h1
      omega
     ·rintro ⟨a, b', c, he, h2⟩
      cases a with
      | nil => exact absurd h2 h0
      | cons a0 a =>
        rw [List.cons_append] at he
        injection he with h3 h4
        subst h3
        refine ⟨a, b', c, h4, ?_⟩
        rw [wsOf_cons, List.length_append, b.ws_len] at h2
        rw [b.ms_len]
        omega
theorem objB_pos (a : List Ob) : objB (2 * posOf a) = true := (objB_iff _).2 ⟨by unfold posOf; omega, by omega⟩
theorem half_pos (a : List Ob) : 2 * posOf a / 2 = posOf a := by omega
theorem getD_app_right {α : Type} (a b : List α) (n : Nat) (d : α) : (a ++ b).getD (a.length + n) d = b.getD n d := by
 rw [List.getD_eq_getElem?_getD, List.getElem?_append_right (by omega), Nat.add_sub_cancel_left, ← List.getD_eq_getElem?_getD]
theorem getD_app_left {α : Type} (a b : List α) (n : Nat) (d : α) (h : n < a.length) : (a ++ b).getD n d = a.getD n d := by
 rw [List.getD_eq_getElem?_getD, List.getElem?_append_left h, ← List.getD_eq_getElem?_getD]
section
variable {h : HM} {l a c : List Ob} {b : Ob}
theorem HM.Laid.isB_iff (L : h.Laid l) (o : Nat) : h.isB o = true ↔ ∃ a b c, l = a ++ b :: c ∧ o = 2 * posOf a := by
 unfold HM.isB
 rw [Bool.and_eq_true, objB_iff, L.marks]
 constructor
 ·rintro ⟨⟨h1, h2⟩, h3⟩
  obtain ⟨j, hj⟩ : ∃ j, o / 2 = j + 1 := ⟨o / 2 - 1, by omega⟩
  rw [hj, List.getD_cons_succ] at h3
  obtain ⟨a, b, c, h4, h5⟩ := (mark_iff _ _).1 h3
  exact ⟨a, b, c, h4, by unfold posOf; omega⟩
 ·rintro ⟨a, b, c, h4, rfl⟩
  refine ⟨(objB_iff _).1 (objB_pos a), ?_⟩
  rw [half_pos]
  unfold posOf
  rw [Nat.add_comm, List.getD_cons_succ]
  exact (mark_iff _ _).2 ⟨a, b, c, h4, rfl⟩
theorem HM.Laid.w_at (L : h.Laid (a ++ b :: c)) (j : Nat) (hj : j < 3 + b.fs.length) : h.w (posOf a + j) = b.ws.getD j 0 := by
 unfold HM.w posOf
 rw [L.words, wsOf_app, wsOf_cons, Nat.add_assoc, Nat.add_comm 1, List.getD_cons_succ, getD_app_right, getD_app_left _ _ _ _ (by rw [b.ws_len]; exact hj)]
theorem HM.Laid.ok_at (L : h.Laid (a ++ b :: c)) : b.Ok := L.ok b (by simp)
theorem ws_0 (b : Ob) : b.ws.getD 0 0 = b.x.w0 := by unfold Ob.ws; rw [List.getD_cons_zero]
theorem ws_1 (b : Ob) : b.ws.getD 1 0 = b.x.cls := by unfold Ob.ws; rw [List.getD_cons_succ, List.getD_cons_zero]
theorem ws_2 (b : Ob) : b.ws.getD 2 0 = b.x.ser := by unfold Ob.ws; rw [List.getD_cons_succ, List.getD_cons_succ, List.getD_cons_zero]
theorem ws_f (b : Ob) (j : Nat) : b.ws.getD (j + 3) 0 = b.fs.getD j 0 := by unfold Ob.ws; rw [List.getD_cons_succ, List.getD_cons_succ, List.getD_cons_succ]
theorem w0_lt {x : Hd} (k : x.Fit) : x.w0 < 536870912 := by
 obtain ⟨h1, h2, h3, _, _⟩ := k
 unfold Hd.w0
 omega
theorem unhd_ob (k : b.Ok) : unhd b.x.w0 b.x.cls b.x.ser = b.x := by
 obtain ⟨⟨h1, h2, h3, h4, h5⟩, _, _, _⟩ := k
 obtain ⟨⟨n, t, s, cl, r⟩, fs⟩ := b
 simp only [unhd, Hd.w0] at *
 congr 1 <;> omega
theorem HM.Laid.hd_at (L : h.Laid (a ++ b :: c)) : h.hd (posOf a) = b.x := by
 unfold HM.hd
 have e0 := L.w_at 0 (by omega)
 have e1 := L.w_at 1 (by omega)
 have e2 := L.w_at 2 (by omega)
 rw [Nat.add_zero] at e0
 rw [e0, e1, e2, ws_0, ws_1, ws_2]
 exact unhd_ob L.ok_at
theorem HM.Laid.f_at (L : h.Laid (a ++ b :: c)) (j : Nat) (hj : j < b.fs.length) : fw h (2 * posOf a) j = b.fs.getD j 0 := by
 unfold fw
 rw [half_pos, Nat.add_assoc, L.w_at _ (by omega), Nat.add_comm 3, ws_f]
theorem HM.Laid.words_len (L : h.Laid (a ++ b :: c)) : h.words.length = posOf a + 3 + b.fs.length + (wsOf c).length := by
 rw [L.words, wsOf_app, wsOf_cons]
 simp [posOf, b.ws_len]
 omega
theorem HM.Laid.hdAt_at (L : h.Laid (a ++ b :: c)) : h.hdAt (posOf a) := by
 have k := L.ok_at
 refine ⟨?_, ?_⟩
 ·rw [L.hd_at, L.words_len, k.size]; omega
 ·have e0 := L.w_at 0 (by omega)
  have e1 := L.w_at 1 (by omega)
  have e2 := L.w_at 2 (by omega)
  rw [Nat.add_zero] at e0
  rw [e0, e1, e2, ws_0, ws_1, ws_2]
  unfold okhd
  rw [unhd_ob k, k.may]
  exact (Bool.true_and _).trans (decide_eq_true (show b.x.w0 < 536870912 from w0_lt k.fit))
theorem HM.Laid.heads (L : h.Laid l) : h.Heads := by
 intro i hi
 rw [L.marks] at hi
 cases i with
 | zero => simp at hi
 | succ j =>
   rw [List.getD_cons_succ] at hi
   obtain ⟨a, b, c, rfl, rfl⟩ := (mark_iff _ _).1 hi
   have := L.hdAt_at
   rwa [posOf, Nat.add_comm] at this
theorem HM.Laid.fields_at (L : h.Laid (a ++ b :: c)) : h.fields (2 * posOf a) = b.fs := by
 unfold HM.fields
 rw [half_pos, L.hd_at, L.ok_at.size, L.words, wsOf_app, wsOf_cons]
 have : posOf a + 3 = (0 :: wsOf a ++ [b.x.w0, b.x.cls, b.x.ser]).length := by simp [posOf]; omega
 rw [this]
 have e : 0 :: (wsOf a ++ (b.ws ++ wsOf c)) = (0 :: wsOf a ++ [b.x.w0, b.x.cls, b.x.ser]) ++ (b.fs ++ wsOf c) := by simp [Ob.ws]
 rw [e, List.drop_left, List.take_left']
 rfl
end
structure HM.Sound (h : HM) (l : List Ob) : Prop where
 cls : ∀ b ∈ l, h.clsB b.x.cls = true
 flds : ∀ b ∈ l, b.x.ptrB = true → ∀ f ∈ b.fs, h.valB f = true
 spare : ∀ b ∈ l, b.x.fmt = 2 → spareE b.fs b.x.spare = 0
 sers : ∀ b ∈ l, 1 ≤ b.x.ser ∧ b.x.ser ≤ h.last
 nodup : (l.map (·.x.ser)).Nodup
 roots : ∀ r ∈ h.roots, h.valB r = true
structure HM.Good (h : HM) (l : List Ob) : Prop where
 fit : h.Fit
 laid : h.Laid l
 sound : h.Sound l
theorem bytesM_cons (y : Nat) (ys : List Nat) : bytesM (y :: ys) = bytes4 y ++ bytesM ys := rfl
theorem bytesM_app (xs ys : List Nat) : bytesM (xs ++ ys) = bytesM xs ++ bytesM ys := List.flatMap_append
section
variable {h : HM} {l : List Ob}
end
theorem wsOf_ge (l : List Ob) : 3 * l.length ≤ (wsOf l).length := by
 induction l with
 | nil => simp
 | cons b l ih => rw [wsOf_cons, List.length_append, b.ws_len, List.length_cons]; omega
end
section
open Go.RowKit
structure Dd where
 k : Int
 o : Nat
 v : Nat
 f : Int
 i : Int
 n : Int
 w : Nat
 b : List Nat
end
section
open Go.RowKit
def parseF : Nat → List Nat → Option (List Ob)
 | 0, _ => none
 | _ + 1, [] => some []
 | f + 1, a :: b :: c :: r => if okhd a b c && decide ((unhd a b c).size ≤ r.length) then (parseF f (r.drop (unhd a b c).size)).map (⟨unhd a b c, r.take (unhd a b c).size⟩ :: ·) else none
 | _ + 1, _ => none
def parseT (ws : List Nat) : Option (List Ob) := parseF (ws.length + 1) ws
def parseW : List Nat → Option (List Ob)
 | 0 :: r => parseT r
 | _ => none
theorem parseF_fuel : ∀ (f g : Nat) (ws : List Nat), ws.length < f → ws.length < g → parseF f ws = parseF g ws
 | 0, _, _, h, _ => absurd h (by omega)
 | _, 0, _, _, h => absurd h (by omega)
 | f + 1, g + 1, [], _, _ => rfl
 | f + 1, g + 1, [_], _, _ => rfl
 | f + 1, g + 1, [_, _], _, _ => rfl
 | f + 1, g + 1, a :: b :: c :: r, h1, h2 => by
   unfold parseF
   split
   ·rw [parseF_fuel f g _ (by simp at h1 ⊢; omega) (by simp at h2 ⊢; omega)]
   ·rfl
theorem parseT_nil : parseT [] = some [] := rfl
theorem parseT_short {ws : List Nat} (h0 : ws ≠ []) (h3 : ws.length < 3) : parseT ws = none := by
 match ws, h0, h3 with
 | [_], _, _ => rfl
 | [_, _], _, _ => rfl
 | _ :: _ :: _ :: _, _, h => simp at h; omega
theorem parseT_bad {a b c : Nat} {r : List Nat} (h : okhd a b c = false) : parseT (a :: b :: c :: r) = none := by
 unfold parseT
 unfold parseF
 rw [h, Bool.false_and, if_neg (by decide)]
theorem parseT_long {a b c : Nat} {r : List Nat} (h : r.length < (unhd a b c).size) : parseT (a :: b :: c :: r) = none := by
 unfold parseT
 unfold parseF
 rw [decide_eq_false (by omega), Bool.and_false, if_neg (by decide)]
theorem parseT_ok {a b c : Nat} {r : List Nat} (h : okhd a b c = true) (hs : (unhd a b c).size ≤ r.length) :
 parseT (a :: b :: c :: r) = (parseT (r.drop (unhd a b c).size)).map (⟨unhd a b c, r.take (unhd a b c).size⟩ :: ·) := by
 unfold parseT
 conv => lhs; unfold parseF
 rw [h, decide_eq_true hs, Bool.true_and, if_pos rfl, parseF_fuel _ ((r.drop (unhd a b c).size).length + 1) _ (by simp; omega) (by omega)]
theorem Ob.ok_of {a b c : Nat} {r : List Nat} (h : okhd a b c = true) (hs : (unhd a b c).size ≤ r.length) (hb : b < 4294967296) (hc : c < 4294967296) (hr : ∀ x ∈ r, x < 4294967296) :
 Ob.Ok ⟨unhd a b c, r.take (unhd a b c).size⟩ := by
 unfold okhd at h
 rw [Bool.and_eq_true] at h
 exact ⟨⟨Nat.mod_lt _ (by omega), Nat.mod_lt _ (by omega), Nat.mod_lt _ (by omega), hb, hc⟩, h.1, by rw [List.length_take]; show (unhd a b c).size = _; omega, fun f hf => hr f (List.mem_of_mem_take hf)⟩
theorem okhd_w0 {a b c : Nat} (h : okhd a b c = true) : (unhd a b c).w0 = a := by
 unfold okhd at h
 simp only [Bool.and_eq_true, decide_eq_true_eq] at h
 have h2 := h.2
 unfold Hd.w0 unhd
 show a % 16777216 + a / 16777216 % 8 * 16777216 + a / 134217728 % 4 * 134217728 = a
 omega
theorem ws_of_parse {a b c : Nat} {r : List Nat} (h : okhd a b c = true) : (Ob.ws ⟨unhd a b c, r.take (unhd a b c).size⟩) ++ r.drop (unhd a b c).size = a :: b :: c :: r := by
 unfold Ob.ws
 show (unhd a b c).w0 :: b :: c :: r.take _ ++ r.drop _ = _
 rw [okhd_w0 h]
 simp
theorem okhd_ob {b : Ob} (k : b.Ok) : okhd b.x.w0 b.x.cls b.x.ser = true := by
 unfold okhd
 rw [unhd_ob k, k.may]
 exact (Bool.true_and _).trans (decide_eq_true (w0_lt k.fit))
theorem parseT_ob {b : Ob} (k : b.Ok) (r : List Nat) : parseT (b.ws ++ r) = (parseT r).map (b :: ·) := by
 unfold Ob.ws
 rw [List.cons_append, List.cons_append, List.cons_append, parseT_ok (okhd_ob k) (by rw [unhd_ob k, k.size]; simp), unhd_ob k, k.size, List.drop_left, List.take_left]
theorem parseT_obs {l : List Ob} (k : ∀ b ∈ l, b.Ok) (r : List Nat) : parseT (wsOf l ++ r) = (parseT r).map (l ++ ·) := by
 induction l with
 | nil => cases h : parseT r <;> simp [wsOf_nil, h]
 | cons b l ih =>
   rw [wsOf_cons, List.append_assoc, parseT_ob (k b (by simp)), ih (fun b hb => k b (List.mem_cons_of_mem _ hb)), Option.map_map]
   rfl
theorem parseW_obs {l : List Ob} (k : ∀ b ∈ l, b.Ok) : parseW (0 :: wsOf l) = some l := by
 have := parseT_obs k []
 rw [List.append_nil, parseT_nil] at this
 show parseT (wsOf l) = _
 rw [this]
 simp
theorem parseF_inv : ∀ (f : Nat) (ws : List Nat) (l : List Ob), (∀ x ∈ ws, x < 4294967296) → parseF f ws = some l → ws = wsOf l ∧ ∀ b ∈ l, b.Ok
 | 0, _, _, _, h => by cases h
 | f + 1, [], l, _, h => by cases h; exact ⟨rfl, fun _ hb => by cases hb⟩
 | f + 1, [_], l, _, h => by cases h
 | f + 1, [_, _], l, _, h => by cases h
 | f + 1, a :: b :: c :: r, l, h32, h => by
   unfold parseF at h
   split at h
   ·rename_i hc
    rw [Bool.and_eq_true, decide_eq_true_eq] at hc
    rw [Option.map_eq_some_iff] at h
    obtain ⟨l', h1, rfl⟩ := h
    obtain ⟨e, k⟩ := parseF_inv f _ l' (fun x hx => h32 x (by have := List.mem_of_mem_drop hx; simp [this])) h1
    refine ⟨?_, ?_⟩
    ·rw [wsOf_cons, ← e]
     exact (ws_of_parse hc.1).symm
    ·intro o ho
     rcases List.mem_cons.1 ho with rfl | ho
     ·exact Ob.ok_of hc.1 hc.2 (h32 b (by simp)) (h32 c (by simp)) (fun x hx => h32 x (by simp [hx]))
     ·exact k o ho
   ·cases h
theorem parseW_inv {ws : List Nat} {l : List Ob} (h32 : ∀ x ∈ ws, x < 4294967296) (h : parseW ws = some l) : ws = 0 :: wsOf l ∧ ∀ b ∈ l, b.Ok := by
 unfold parseW at h
 split at h
 ·rename_i r
  obtain ⟨e, k⟩ := parseF_inv _ _ _ (fun x hx => h32 x (List.mem_cons_of_mem _ hx)) h
  exact ⟨by rw [← e], k⟩
 ·cases h
def HM.ofWords (size : Nat) (words roots : List Nat) (last : Nat) : HM := ⟨size, words, false :: msOf ((parseW words).getD []), roots, last⟩
def LoadOk (size : Nat) (words roots : List Nat) (last : Nat) : Prop := ∃ l, parseW words = some l ∧ (HM.ofWords size words roots last).Sound l
theorem HM.ofWords_good {size : Nat} {words roots : List Nat} {last : Nat} {l : List Ob} (h1 : 64 ≤ size) (h2 : size ≤ 1048576) (hw : ∀ x ∈ words, x < 4294967296) (hr : ∀ x ∈ roots, x < 4294967296) (hrl : roots.length = 64)
 (hl : last < 4294967296) (hs : words.length ≤ size) (hp : parseW words = some l) (S : (HM.ofWords size words roots last).Sound l) : (HM.ofWords size words roots last).Good l := by
 obtain ⟨e, k⟩ := parseW_inv hw hp
 have e2 : (HM.ofWords size words roots last).starts = false :: msOf l := by show false :: msOf ((parseW words).getD []) = _; rw [hp]; rfl
 refine ⟨⟨h1, h2, ?_, hs, ?_, hrl, hw, hr, hl⟩, ⟨e, e2, k⟩, S⟩
 ·show 1 ≤ words.length
  rw [e]; simp
 ·rw [e2]
  show _ = words.length
  rw [e]; simp [msOf_len]
theorem HM.Good.ofWords {h : HM} {l : List Ob} (G : h.Good l) : HM.ofWords h.size h.words h.roots h.last = h ∧ parseW h.words = some l := by
 have hp : parseW h.words = some l := by rw [G.laid.words]; exact parseW_obs G.laid.ok
 refine ⟨?_, hp⟩
 unfold HM.ofWords
 rw [hp]
 show HM.mk h.size h.words (false :: msOf l) h.roots h.last = h
 rw [← G.laid.marks]
structure Pre (ws : List Nat) (l : List Ob) (r : List Nat) : Prop where
 eq : ws = 0 :: (wsOf l ++ r)
 ok : ∀ b ∈ l, b.Ok
theorem Pre.parse {ws r : List Nat} {l : List Ob} (p : Pre ws l r) : parseW ws = (parseT r).map (l ++ ·) := by rw [p.eq]; exact parseT_obs p.ok r
theorem Pre.len {ws r : List Nat} {l : List Ob} (p : Pre ws l r) : ws.length = posOf l + r.length := by rw [p.eq]; simp [posOf]; omega
theorem Pre.get {ws r : List Nat} {l : List Ob} (p : Pre ws l r) (j : Nat) : ws.getD (posOf l + j) 0 = r.getD j 0 := by
 rw [p.eq]
 unfold posOf
 rw [Nat.add_assoc, Nat.add_comm 1, List.getD_cons_succ, getD_app_right]
theorem Pre.next {ws r : List Nat} {l : List Ob} {a b c : Nat} (p : Pre ws l (a :: b :: c :: r)) (h32 : ∀ x ∈ ws, x < 4294967296) (h : okhd a b c = true) (hs : (unhd a b c).size ≤ r.length) :
 Pre ws (l ++ [⟨unhd a b c, r.take (unhd a b c).size⟩]) (r.drop (unhd a b c).size) := by
 have hm : ∀ x ∈ a :: b :: c :: r, x < 4294967296 := fun x hx => h32 x (by rw [p.eq]; simp at hx ⊢; right; right; exact hx)
 refine ⟨?_, fun o ho => ?_⟩
 ·rw [p.eq, wsOf_app, wsOf_cons, wsOf_nil, List.append_nil, List.append_assoc, ws_of_parse h]
 ·rcases List.mem_append.1 ho with ho | ho
  ·exact p.ok o ho
  ·simp only [List.mem_cons, List.not_mem_nil, or_false] at ho
   subst ho
   exact Ob.ok_of h hs (hm b (by simp)) (hm c (by simp)) (fun x hx => hm x (by simp [hx]))
theorem Pre.start {r : List Nat} : Pre (0 :: r) [] r := ⟨by simp [wsOf_nil], fun _ h => by cases h⟩
end
end Go.Proofs.YthadjmhipckelaaGreatDoor
