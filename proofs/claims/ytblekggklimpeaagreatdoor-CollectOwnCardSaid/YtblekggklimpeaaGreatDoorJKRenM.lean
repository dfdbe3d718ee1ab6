/- Names exchanged and given away, plain: what every word names then. -/
/- Renaming, step by step: what each deed on the heap does. -/
/- rename's function: what an oop becomes. -/
/- All of the program's heap, for a body that keeps what the caller says is safe; the relation of a body that grows a row of its own behind a box. -/
/- The way from a beginning. Plain data. -/
/- A row of oops that grows behind a box, in the body of a loop over All. -/
/- append onto a row of the call's own, inside a fence. -/
/- slices.Contains at oops. -/
import Derived.Test.YtblekggklimpeaaGreatDoorJKNamed
import Derived.Test.YtblekggklimpeaaGreatDoorJMapOk
import Derived.Test.YtblekggklimpeaaGreatDoorJMem
import Derived.Test.YtblekggklimpeaaGreatDoorJLook
import Derived.Test.YtblekggklimpeaaGreatDoorJAll
import Derived.OwnWalkIn
set_option linter.unusedVariables false
set_option linter.unusedSimpArgs false
set_option linter.unusedSectionVars false
namespace Go.Proofs.YtblekggklimpeaaGreatDoor
open Go.RowKit
/-- What a list of pairs makes of an oop. -/
def renO (pl : List (Nat × Nat)) (o : Nat) : Nat := match pl.find? (fun p => p.1 == o) with | some p => p.2 | none => o
def ren (r : Nat → Nat) (b : Ob) : Ob := ⟨{ b.x with cls := r b.x.cls }, if b.x.ptrB then b.fs.map r else b.fs⟩
def renH (r : Nat → Nat) (h : HM) (l : List Ob) : HM := { h with words := 0 :: wsOf (l.map (ren r)), roots := h.roots.map r }
/-- One object's turn: its class from what was told of it, its fields from what lies there. -/
def stepB (r : Nat → Nat) (c : Nat) (b : Ob) : Ob := ⟨{ b.x with cls := r c }, if b.x.ptrB then b.fs.map r else b.fs⟩
def stepL (r : Nat → Nat) (l : List Ob) (L : List Ob) (x : Fin l.length) : List Ob := L.set x.1 (stepB r (l[x.1]'x.2).x.cls (L.getD x.1 (l[x.1]'x.2)))
def rensL (r : Nat → Nat) (l : List Ob) (pre : List (Fin l.length)) : List Ob := pre.foldl (stepL r l) l
theorem rensL_snoc (r : Nat → Nat) (l : List Ob) (pre : List (Fin l.length)) (x : Fin l.length) : rensL r l (pre ++ [x]) = stepL r l (rensL r l pre) x := by
  unfold rensL
  rw [List.foldl_append]
  rfl
def shp (b : Ob) : Hd × Nat := ({ b.x with cls := 0 }, b.fs.length)
theorem shp_step (r : Nat → Nat) (c : Nat) (b : Ob) : shp (stepB r c b) = shp b := by
  unfold shp stepB
  simp only [Prod.mk.injEq, true_and]
  split <;> simp
theorem map_set_same {α β : Type} (g : α → β) (L : List α) (i : Nat) (v : α) (h : ∀ b, L[i]? = some b → g v = g b) : (L.set i v).map g = L.map g := by
  apply List.ext_getElem?
  intro j
  rw [List.getElem?_map, List.getElem?_map, List.getElem?_set]
  by_cases hj : i = j
  · subst hj
    rw [if_pos rfl]
    by_cases hl : i < L.length
    · rw [if_pos hl]
      rw [List.getElem?_eq_getElem hl]
      show some (g v) = some (g L[i])
      rw [h _ (List.getElem?_eq_getElem hl)]
    · rw [if_neg hl, List.getElem?_eq_none (by omega)]
  · rw [if_neg hj]
theorem stepL_shp (r : Nat → Nat) (l L : List Ob) (x : Fin l.length) : (stepL r l L x).map shp = L.map shp := by
  unfold stepL
  refine map_set_same shp L _ _ fun b hb => ?_
  rw [List.getD_eq_getElem?_getD, hb, Option.getD_some, shp_step]
theorem rensL_shp (r : Nat → Nat) (l : List Ob) (pre : List (Fin l.length)) : (rensL r l pre).map shp = l.map shp := by
  unfold rensL
  suffices ∀ L, L.map shp = l.map shp → (pre.foldl (stepL r l) L).map shp = l.map shp from this l rfl
  induction pre with
  | nil => exact fun L h => h
  | cons x pre ih => exact fun L h => ih _ ((stepL_shp r l L x).trans h)
theorem wsOf_shp : ∀ {L l : List Ob}, L.map shp = l.map shp → (wsOf L).length = (wsOf l).length
  | [], [], _ => rfl
  | [], _ :: _, h => by simp at h
  | _ :: _, [], h => by simp at h
  | b :: L, c :: l, h => by
    rw [List.map_cons, List.map_cons, List.cons.injEq] at h
    rw [wsOf_cons, wsOf_cons, List.length_append, List.length_append, b.ws_len, c.ws_len, wsOf_shp h.2]
    have := congrArg Prod.snd h.1
    unfold shp at this
    simp only at this
    omega
theorem posOf_shp {L l : List Ob} (h : L.map shp = l.map shp) (i : Nat) : posOf (L.take i) = posOf (l.take i) := by
  unfold posOf
  rw [wsOf_shp (L := L.take i) (l := l.take i) (by rw [List.map_take, List.map_take, h])]
theorem len_shp {L l : List Ob} (h : L.map shp = l.map shp) : L.length = l.length := by
  have := congrArg List.length h
  rwa [List.length_map, List.length_map] at this
theorem at_shp {L l : List Ob} (h : L.map shp = l.map shp) {i : Nat} (hi : i < L.length) (hj : i < l.length) : shp L[i] = shp l[i] := by
  have h1 : (L.map shp)[i]? = (l.map shp)[i]? := by rw [h]
  rw [List.getElem?_map, List.getElem?_map, List.getElem?_eq_getElem hi, List.getElem?_eq_getElem hj] at h1
  exact Option.some.inj h1
theorem set_mid' {L : List Ob} {i : Nat} (hi : i < L.length) (v : Ob) : L.set i v = L.take i ++ v :: L.drop (i + 1) := by
  apply List.ext_getElem?
  intro j
  rw [List.getElem?_set, List.getElem?_append]
  have hl : (L.take i).length = i := by rw [List.length_take]; omega
  rw [hl]
  by_cases h1 : i = j
  · subst h1
    rw [if_pos rfl, if_pos hi, if_neg (by omega), Nat.sub_self]
    rfl
  · rw [if_neg h1]
    by_cases h2 : j < i
    · rw [if_pos h2, List.getElem?_take, if_pos h2]
    · rw [if_neg h2]
      obtain ⟨m, rfl⟩ : ∃ m, j = i + 1 + m := ⟨j - (i + 1), by omega⟩
      rw [show i + 1 + m - i = m + 1 by omega, List.getElem?_cons_succ, List.getElem?_drop]
theorem rens_take (r : Nat → Nat) (l : List Ob) : ∀ k, k ≤ l.length → rensL r l ((List.finRange l.length).take k) = (l.take k).map (ren r) ++ l.drop k
  | 0, _ => by simp [rensL]
  | k + 1, hk => by
    have hk' : k < l.length := by omega
    have hf : (List.finRange l.length).take (k + 1) = (List.finRange l.length).take k ++ [⟨k, hk'⟩] := by
      rw [List.take_add_one, List.getElem?_eq_getElem (by simpa using hk')]
      simp
    rw [hf, rensL_snoc, rens_take r l k (by omega)]
    have hlen : ((l.take k).map (ren r)).length = k := by rw [List.length_map, List.length_take]; omega
    have hd : l.drop k = l[k] :: l.drop (k + 1) := by rw [List.getElem_cons_drop]
    unfold stepL
    simp only
    have hg : ((l.take k).map (ren r) ++ l.drop k).getD k l[k] = l[k] := by
      rw [List.getD_eq_getElem?_getD, List.getElem?_append_right (by omega), hlen, Nat.sub_self, hd]
      rfl
    rw [hg]
    have hs : ((l.take k).map (ren r) ++ l.drop k).set k (stepB r l[k].x.cls l[k]) = (l.take k).map (ren r) ++ (stepB r l[k].x.cls l[k] :: l.drop (k + 1)) := by
      rw [List.set_append_right _ _ (by omega), hlen, Nat.sub_self, hd]
      rfl
    rw [hs, List.take_add_one, List.getElem?_eq_getElem hk', List.map_append, List.append_assoc]
    rfl
theorem rens_all (r : Nat → Nat) (l : List Ob) : rensL r l (List.finRange l.length) = l.map (ren r) := by
  have h := rens_take r l l.length (Nat.le_refl _)
  rw [List.take_of_length_le (by simp), List.take_of_length_le (Nat.le_refl _), List.drop_of_length_le (Nat.le_refl _), List.append_nil] at h
  exact h
/-- What renaming may do to a heap's names. -/
structure RenOk (h : HM) (r : Nat → Nat) : Prop where
  lt : ∀ o, o < 4294967296 → r o < 4294967296
  cls : ∀ o, h.clsB o = true → h.clsB (r o) = true
  val : ∀ o, h.valB o = true → h.valB (r o) = true
theorem RenOk.same {h h' : HM} {r : Nat → Nat} (R : RenOk h r) (hs : h'.starts = h.starts) : RenOk h' r :=
  ⟨R.lt, fun o => by rw [HM.clsB_same hs, HM.clsB_same hs]; exact R.cls o, fun o => by rw [HM.valB_same hs, HM.valB_same hs]; exact R.val o⟩
/-- The heap under way. -/
structure RenSt (r : Nat → Nat) (h : HM) (l : List Ob) (L : List Ob) (hk : HM) : Prop where
  good : hk.Good L
  same_ : L.map shp = l.map shp
  size : hk.size = h.size
  last : hk.last = h.last
  starts : hk.starts = h.starts
theorem RenSt.start {r : Nat → Nat} {h : HM} {l : List Ob} (G : h.Good l) : RenSt r h l l h := ⟨G, rfl, rfl, rfl, rfl⟩
theorem RenSt.fin {r : Nat → Nat} {h hk : HM} {l : List Ob} (R : RenSt r h l (l.map (ren r)) hk) (hr : hk.roots = h.roots.map r) : hk = renH r h l := by
  have hw := R.good.laid.words
  have h1 := R.size
  have h2 := R.last
  have h3 := R.starts
  cases hk
  unfold renH
  simp only at hw hr h1 h2 h3
  subst hw hr h1 h2 h3
  rfl
end Go.Proofs.YtblekggklimpeaaGreatDoor

namespace Go.Proofs.YtblekggklimpeaaGreatDoor
open Go.RowKit
section
variable {r : Nat → Nat} {h hk : HM} {l L : List Ob}
theorem good_at (G : h.Good l) {x : Nat} (hx : x < l.length) : h.Good (l.take x ++ l[x] :: l.drop (x + 1)) := by rw [← split_at l x hx]; exact G
theorem RenSt.isB (S : RenSt r h l L hk) {x : Nat} (hx : x < L.length) : hk.isB (2 * posOf (l.take x)) = true := by
  rw [← posOf_shp S.same_ x]; exact isB_at S.good x hx
theorem RenSt.hd (S : RenSt r h l L hk) {x : Nat} (hx : x < L.length) : hk.hd (posOf (l.take x)) = (L[x]).x := by
  rw [← posOf_shp S.same_ x]; exact hd_at' S.good x hx
theorem RenSt.flds (S : RenSt r h l L hk) {x : Nat} (hx : x < L.length) : hk.fields (2 * posOf (l.take x)) = (L[x]).fs := by
  rw [← posOf_shp S.same_ x]
  exact (good_at S.good hx).laid.fields_at
theorem RenSt.setCls (S : RenSt r h l L hk) {x : Nat} (hx : x < L.length) {c : Nat} (h32 : c < 4294967296) (hc : hk.clsB c = true) :
    hk.setClassE (2 * posOf (l.take x)) c = 0 ∧ RenSt r h l (L.set x ⟨{ (L[x]).x with cls := c }, (L[x]).fs⟩) (hk.setClassH (2 * posOf (l.take x)) c) ∧ (hk.setClassH (2 * posOf (l.take x)) c).roots = hk.roots := by
  have hE : hk.setClassE (2 * posOf (l.take x)) c = 0 := by
    unfold HM.setClassE
    rw [S.isB hx, hc]
    rfl
  have hH : hk.setClassH (2 * posOf (l.take x)) c = { hk with words := hk.words.set (posOf (l.take x) + 1) c } := by
    unfold HM.setClassH
    rw [if_pos hE, half_pos]
  rw [hH]
  refine ⟨hE, ⟨?_, ?_, S.size, S.last, S.starts⟩, rfl⟩
  · have G := (good_at S.good hx).setCls c h32 hc
    rw [posOf_shp S.same_ x] at G
    rw [set_mid' hx]
    exact G
  · refine (map_set_same shp L x _ fun b hb => ?_).trans S.same_
    rw [List.getElem?_eq_getElem hx] at hb
    injection hb with hb
    subst hb
    rfl
theorem RenSt.field (S : RenSt r h l L hk) {x : Nat} (hx : x < L.length) (hp : (L[x]).x.ptrB = true) {j : Nat} (hj : j < (L[x]).fs.length) : (L[x]).fs[j] < 4294967296 ∧ hk.valB (L[x]).fs[j] = true :=
  ⟨(S.good.laid.ok _ (List.getElem_mem hx)).f32 _ (List.getElem_mem hj), S.good.sound.flds _ (List.getElem_mem hx) hp _ (List.getElem_mem hj)⟩
theorem RenSt.put (S : RenSt r h l L hk) {x : Nat} (hx : x < L.length) (hp : (L[x]).x.ptrB = true) {j : Nat} (hj : j < (L[x]).fs.length) {v : Nat} (h32 : v < 4294967296) (hv : hk.valB v = true) :
    hk.putE (2 * posOf (l.take x)) (j : Int) v = 0 ∧ RenSt r h l (L.set x ⟨(L[x]).x, (L[x]).fs.set j v⟩) (hk.putH (2 * posOf (l.take x)) (j : Int) v) ∧ (hk.putH (2 * posOf (l.take x)) (j : Int) v).roots = hk.roots := by
  have hok := S.good.laid.ok _ (List.getElem_mem hx)
  have hf : (L[x]).x.fmt = 1 ∨ (L[x]).x.fmt = 4 := by
    unfold Hd.ptrB at hp
    simpa using hp
  have hlen : (L[x]).x.len = (L[x]).x.size := by unfold Hd.len; rw [if_neg (by omega)]
  have hE : hk.putE (2 * posOf (l.take x)) (j : Int) v = 0 := by
    have h2 : [1, 4].contains (L[x]).x.fmt = true := by rcases hf with e | e <;> rw [e] <;> decide
    have hlk : hk.lookE (2 * posOf (l.take x)) (j : Int) [1, 4] = 0 := by
      unfold HM.lookE
      rw [S.isB hx, half_pos, S.hd hx, if_neg (by simp), h2, if_neg (by simp), hlen, if_neg (by have := hok.size; omega)]
    unfold HM.putE
    rw [if_pos hlk, if_pos hv]
  have hH : hk.putH (2 * posOf (l.take x)) (j : Int) v = hk.setF (2 * posOf (l.take x)) j v := by
    unfold HM.putH
    rw [if_pos hE, Int.toNat_natCast]
  rw [hH]
  refine ⟨hE, ⟨?_, ?_, S.size, S.last, S.starts⟩, rfl⟩
  · have G := (good_at S.good hx).setF j v hj h32 (fun _ => hv) (fun e => by omega)
    rw [posOf_shp S.same_ x] at G
    rw [set_mid' hx]
    exact G
  · refine (map_set_same shp L x _ fun b hb => ?_).trans S.same_
    rw [List.getElem?_eq_getElem hx] at hb
    injection hb with hb
    subst hb
    simp [shp]
theorem take_map_set (r : Nat → Nat) (fs : List Nat) {j : Nat} (hj : j < fs.length) : ((fs.take j).map r ++ fs.drop j).set j (r fs[j]) = (fs.take (j + 1)).map r ++ fs.drop (j + 1) := by
  have hlen : ((fs.take j).map r).length = j := by rw [List.length_map, List.length_take]; omega
  rw [List.set_append_right _ _ (by omega), hlen, Nat.sub_self, ← List.getElem_cons_drop (h := hj), List.take_add_one, List.getElem?_eq_getElem hj, List.map_append, List.append_assoc]
  rfl
theorem take_map_get (r : Nat → Nat) (fs : List Nat) {j : Nat} (hj : j < fs.length) : ∃ h : j < ((fs.take j).map r ++ fs.drop j).length, ((fs.take j).map r ++ fs.drop j)[j] = fs[j] := by
  have hlen : ((fs.take j).map r).length = j := by rw [List.length_map, List.length_take]; omega
  refine ⟨by rw [List.length_append, hlen, List.length_drop]; omega, ?_⟩
  rw [List.getElem_append_right (by omega)]
  simp only [hlen, Nat.sub_self, List.getElem_drop]
  rfl
/-- One field's turn. -/
theorem RenSt.step {X : Hd} {fs : List Nat} {x j : Nat} (hx : x < L.length) (S : RenSt r h l (L.set x ⟨X, (fs.take j).map r ++ fs.drop j⟩) hk) (hp : X.ptrB = true) (hj : j < fs.length) (R : RenOk h r) :
    hk.isB (2 * posOf (l.take x)) = true ∧ (hk.hd (2 * posOf (l.take x) / 2)).ptrB = true ∧ j < (hk.fields (2 * posOf (l.take x))).length ∧ (hk.fields (2 * posOf (l.take x))).getD j 0 = fs[j] ∧ fs[j] < 4294967296 ∧ r fs[j] < 4294967296 ∧
    hk.putE (2 * posOf (l.take x)) (j : Int) (r fs[j]) = 0 ∧ RenSt r h l (L.set x ⟨X, (fs.take (j + 1)).map r ++ fs.drop (j + 1)⟩) (hk.putH (2 * posOf (l.take x)) (j : Int) (r fs[j])) ∧ (hk.putH (2 * posOf (l.take x)) (j : Int) (r fs[j])).roots = hk.roots := by
  have hx' : x < (L.set x ⟨X, (fs.take j).map r ++ fs.drop j⟩).length := by rw [List.length_set]; exact hx
  have he : (L.set x ⟨X, (fs.take j).map r ++ fs.drop j⟩)[x] = ⟨X, (fs.take j).map r ++ fs.drop j⟩ := List.getElem_set_self (by rw [List.length_set]; exact hx)
  obtain ⟨hl, hg⟩ := take_map_get r fs hj
  have hpx : ((L.set x ⟨X, (fs.take j).map r ++ fs.drop j⟩)[x]).x.ptrB = true := by rw [he]; exact hp
  have hjx : j < ((L.set x ⟨X, (fs.take j).map r ++ fs.drop j⟩)[x]).fs.length := by rw [he]; exact hl
  have hF := S.field hx' hpx hjx
  have hfe : ((L.set x ⟨X, (fs.take j).map r ++ fs.drop j⟩)[x]).fs[j] = fs[j] := by
    simp only [he]
    exact hg
  rw [hfe] at hF
  have R' := R.same S.starts
  obtain ⟨e1, e2, e3⟩ := S.put hx' hpx hjx (R'.lt _ hF.1) (R'.val _ hF.2)
  refine ⟨S.isB hx', by rw [half_pos, S.hd hx']; exact hpx, by rw [S.flds hx']; exact hjx, ?_, hF.1, R'.lt _ hF.1, e1, ?_, e3⟩
  · rw [S.flds hx', List.getD_eq_getElem?_getD, List.getElem?_eq_getElem hjx]
    exact hfe
  · simp only [he, List.set_set, take_map_set r fs hj] at e2
    exact e2
theorem RenSt.root (S : RenSt r h l L hk) {i v : Nat} (hi : i < 64) (h32 : v < 4294967296) (hv : hk.valB v = true) :
    hk.setRootE (i : Int) v = 0 ∧ RenSt r h l L (hk.setRootH (i : Int) v) ∧ (hk.setRootH (i : Int) v).roots = hk.roots.set i v := by
  have hE : hk.setRootE (i : Int) v = 0 := by
    unfold HM.setRootE rootOk
    rw [if_pos (by simp; omega), if_pos hv]
  have hH : hk.setRootH (i : Int) v = { hk with roots := hk.roots.set i v } := by
    unfold HM.setRootH
    rw [if_pos hE, Int.toNat_natCast]
  rw [hH]
  exact ⟨hE, ⟨S.good.setRoot i v h32 hv, S.same_, S.size, S.last, S.starts⟩, rfl⟩
end
end Go.Proofs.YtblekggklimpeaaGreatDoor

namespace Go.Proofs.YtblekggklimpeaaGreatDoor
open Go.RowKit
attribute [local go_sem] Oper.semAt_some
def MapR (w : World) (mb n : Nat) (pl : List (Nat × Nat)) : Prop := MapE 43 43 .u32 w mb n (fun x => (goesM pl x : Nat)) (fun x => decide (x ∈ pl.map (·.1)))
theorem renO_yes {pl : List (Nat × Nat)} {o : Nat} (h : o ∈ pl.map (·.1)) : renO pl o = goesM pl o := by
  unfold renO goesM
  cases hf : pl.find? (fun p => p.1 == o) with
  | some p => rfl
  | none =>
    rw [List.find?_eq_none] at hf
    obtain ⟨q, hq, rfl⟩ := List.mem_map.1 h
    exact absurd (by simp) (hf q hq)
theorem renO_no {pl : List (Nat × Nat)} {o : Nat} (h : o ∉ pl.map (·.1)) : renO pl o = o := by
  unfold renO
  have hf : pl.find? (fun p => p.1 == o) = none := by
    rw [List.find?_eq_none]
    intro q hq he
    exact h (List.mem_map.2 ⟨q, hq, by simpa using he⟩)
  rw [hf]
theorem ren1_any {w : World} {bx mb n : Nat} {pl : List (Nat × Nat)} (hb : Blk w bx 71 #[.map (some mb)]) (M : MapR w mb n pl) {o : Nat} (ho : o < 4294967296) :
    Calls Tryz.prog 60 #[.int .u32 o, .pointer (some ⟨bx, 0, none⟩)] w (fun e w' => e = .returned (.int .u32 (renO pl o : Nat)) ∧ w = w') := by
  have c0 := hb.cell 0
  have hlk := M.look_ok tyOO ho
  by_cases hm : o ∈ pl.map (·.1)
  · have HR := Lib.hid (renO_yes hm)
    rw [decide_eq_true hm] at hlk
    clear M hm
    generalize goesM pl o = y at *
    go_enter Tryz.func60, Tryz.ntmps60
    go_wp2_with fail
    go_ret
    exact ⟨by rw [HR.out]; rfl, rfl⟩
  · have HR := Lib.hid (renO_no hm)
    rw [decide_eq_false hm] at hlk
    clear M hm
    generalize (goesM pl o : Int) = y at *
    go_enter Tryz.func60, Tryz.ntmps60
    go_wp2_with fail
    go_ret
    exact ⟨by rw [HR.out]; rfl, rfl⟩
end Go.Proofs.YtblekggklimpeaaGreatDoor

namespace Go.Proofs.YtblekggklimpeaaGreatDoor
open Go.RowKit
attribute [local go_sem] Oper.semAt_some
theorem HAt.safe {w w' : World} {p : HP} {h : HM} (H : HAt w p h) (hk : ∀ j cs t fr, p.has j → w.heap[j]? = some (.cells cs t fr) → w'.heap[j]? = some (.cells cs t fr)) : HAt w' p h := by
  obtain ⟨h0, ⟨c1, h1, r1⟩, ⟨c2, h2, r2⟩, ⟨c3, h3, r3⟩⟩ := H
  exact ⟨hk _ _ _ _ (.inl rfl) h0, ⟨c1, hk _ _ _ _ (.inr (.inl rfl)) h1, r1⟩, ⟨c2, hk _ _ _ _ (.inr (.inr (.inl rfl))) h2, r2⟩, ⟨c3, hk _ _ _ _ (.inr (.inr (.inr rfl))) h3, r3⟩⟩
theorem Spares.safe {w w' : World} (hs : Spares w) (hk : ∀ cs t fr, w.heap[0]? = some (.cells cs t fr) → w'.heap[0]? = some (.cells cs t fr)) : Spares w' := fun i hi => by
  have hc := hs i hi
  cases ho : w.heap[0]? with
  | none => simp [World.cell?, ho] at hc
  | some ob =>
    cases ob with
    | cells cs t fr => exact (World.cell?_of_block (a := ⟨0, i, none⟩) ((hk cs t fr ho).trans ho.symm)).trans hc
    | _ => simp [World.cell?, ho] at hc
theorem hat_safe {w w' : World} {p : HP} {h : HM} {X : Prop} {Safe : Nat → Prop} (H : HAt w p h) (hs : Spares w) (hk : ∀ j cs t fr, (p.has j ∨ j = 0) → w.heap[j]? = some (.cells cs t fr) → w'.heap[j]? = some (.cells cs t fr) ∧ Safe j) (hx : X) :
    HAt w' p h ∧ Spares w' ∧ X ∧ ∀ j, (p.has j ∨ j = 0) → Safe j := by
  refine ⟨H.safe fun j cs t fr hj hh => (hk j cs t fr (.inl hj) hh).1, hs.safe fun cs t fr hh => (hk _ cs t fr (.inr rfl) hh).1, hx, fun j hj => ?_⟩
  have hcell : ∃ cs t fr, w.heap[j]? = some (.cells cs t fr) := by
    obtain ⟨h0, ⟨c1, h1, r1⟩, ⟨c2, h2, r2⟩, ⟨c3, h3, r3⟩⟩ := H
    rcases hj with (rfl | rfl | rfl | rfl) | rfl
    · exact ⟨_, _, _, h0⟩
    · exact ⟨_, _, _, h1⟩
    · exact ⟨_, _, _, h2⟩
    · exact ⟨_, _, _, h3⟩
    · have hc := hs 0 (by omega)
      cases ho : w.heap[0]? with
      | none => simp [World.cell?, ho] at hc
      | some ob =>
        cases ob with
        | cells cs t fr => exact ⟨_, _, _, rfl⟩
        | _ => simp [World.cell?, ho] at hc
  obtain ⟨cs, t, fr, hh⟩ := hcell
  exact (hk j cs t fr hj hh).2

set_option maxRecDepth 100000 in
set_option maxHeartbeats 4000000 in
/-- All hands out the objects as they lie, whatever the body does that keeps the blocks that are safe. -/
theorem all_stopsG {w : World} {p : HP} {h : HM} {l : List Ob} (H : HAt w p h) (G : h.Good l) (hs : Spares w) (n Bh : Nat) (hbox : w.cell? ⟨Bh, 0, none⟩ = some (ptr p.g)) (Kp : World → World → Prop) (Safe : World → Nat → Prop)
    (hsafe : ∀ A B k cs t fr, Kp A B → Safe A k → A.heap[k]? = some (.cells cs t fr) → B.heap[k]? = some (.cells cs t fr) ∧ Safe B k)
    (hbel : ∀ A B k, Below A.heap.size A B → Safe A k → Safe B k)
    (hnw : ∀ W W1 k, Below w.heap.size w W → Below W.heap.size W W1 → W.heap.size ≤ k → Safe W1 k) (hsp : ∀ W, Below w.heap.size w W → Safe W 0) :
    SeqStopsK Fence.wide n Tryz.prog 70 #[.pointer (some ⟨Bh, 0, none⟩)] (allV l) Kp (fun xs => xs = List.finRange l.length) (fun pre => pre <+: List.finRange l.length) l.length w :=
  fun lp J Jx W hW hJ hJx hY h0 => by
  have hBh := World.block_lt_of_cell? _ _ hbox
  have HW := H.below hW
  have hbW : W.cell? ⟨Bh, 0, none⟩ = some (ptr p.g) := (hW.cell (p := ⟨Bh, 0, none⟩) hBh).trans hbox
  have HC := Lib.hid (Clone_any HW G.fit)
  have HsW := hs.below hW
  refine callsIn_of_wp Tryz.func70 rfl trivial ?_ rfl
  simp only [Tryz.ntmps70, List.size_toArray, List.length_cons, List.length_nil, Nat.reduceAdd, Nat.reduceSub, Array.replicate_succ, Array.replicate_zero, List.push_toArray, List.append_toArray, List.nil_append, List.cons_append]
  unfold ptr at hbW HC
  have HY := Lib.hid hY
  have HJ := Lib.hid (show ∀ s A B, J s A → Below A.heap.size A B → J s B from fun s A B hs hb => hJ s A B none hs ⟨hb.os, hb.tape, hb.output, hb.size, fun k hk _ => hb.block k hk⟩ (fun r e => by cases e))
  have HJ0 := Lib.hid h0
  have HWD := Lib.hid hW
  clear hY hJ hJx h0 hW
  gi_wp2_with fail
  refine ⟨trivial, fun hh => (by cases hh), (callsIn_wide.2 HC.out).mono ?_⟩
  rintro e W1 ⟨pc, rfl, Hc, hnew, hb1⟩
  have HJ1 := HJ.out _ _ _ HJ0.out hb1
  have Hs1 := HsW.below hb1
  have HSF := Lib.hid (show ∀ j, (pc.has j ∨ j = 0) → Safe W1 j from fun j hj => hj.elim (fun h1 => hnw W W1 j HWD.out hb1 (hnew j h1)) (fun h1 => by rw [h1]; exact hbel W W1 _ hb1 (hsp W HWD.out)))
  have HBL := Lib.hid hbel
  have HSA := Lib.hid hsafe
  clear hbel hsafe hnw hsp
  have HF := Lib.hid (first_any Hc G.fit)
  rw [first_oopI G] at HF
  unfold ptr at HF
  clear hbW hnew
  gi_wp2_with fail
  refine ⟨trivial, fun hh => (by cases hh), (callsIn_wide.2 HF.out).mono ?_⟩
  rintro e W2 ⟨rfl, rfl⟩
  have HH := Lib.hid (show HAt W1 pc h ∧ Spares W1 ∧ J ((List.finRange l.length).take 0) W1 ∧ ∀ j, (pc.has j ∨ j = 0) → Safe W1 j from ⟨Hc, Hs1, HJ1, HSF.out⟩)
  clear Hc Hs1 HJ1 hb1
  gi_wp2_with fail
  gi_loopw [4] (fun o wr => ∃ k : Nat, k ≤ l.length ∧ o = .int .u32 ((oopI l k : Nat) : Int) ∧ HAt wr pc h ∧ Spares wr ∧ J ((List.finRange l.length).take k) wr ∧ ∀ j, (pc.has j ∨ j = 0) → Safe wr j) (fun o wr => mesO o)
  case atStart => exact ⟨0, by omega, rfl, HH.out.1, HH.out.2.1, HH.out.2.2⟩
  case round =>
    obtain ⟨k, hk, rfl, Hk, hsk, hjk, hsfk⟩ := hrel
    by_cases hlt : k < l.length
    · have hroom := G.fit.room
      have hhi := G.fit.hi
      have hpl := posOf_take_lt G k hlt
      have hpp := posOf_pos (l.take k)
      have hO := Lib.hid (show oopI l k = 2 * posOf (l.take k) by unfold oopI; rw [if_pos hlt])
      have hN := Lib.hid (next_oopI G k hlt)
      have hB := isB_at G k hlt
      have HX := Lib.hid (hd_at' G k hlt)
      have HAT := Lib.hid (fun w => at_any pc.g (2 * posOf (l.take k)) (by omega) (objB_pos _) w)
      have HHD := Lib.hid (fun w' (H : HAt w' pc h) (hs : Spares w') => header_any H G.fit hs (posOf (l.take k)) (G.laid.heads _ (by unfold HM.isB at hB; simp only [Bool.and_eq_true, half_pos] at hB; exact hB.2)))
      have HNX := Lib.hid (fun w' (H : HAt w' pc h) (hs : Spares w') => next_any H G.fit G.laid.heads hs (2 * posOf (l.take k)) (by omega))
      have HNV := Lib.hid (show h.nextV (2 * posOf (l.take k)) = .tuple #[.int .u32 (oopI l (k + 1) : Nat), .int .i64 0] by unfold HM.nextV; rw [if_pos hB, hN.out])
      have HME := Lib.hid (show oopI l (k + 1) = 0 ∨ 2 * posOf (l.take k) < oopI l (k + 1) by
        unfold oopI
        split
        · have := posOf_take_succ k hlt; right; omega
        · exact .inl rfl)
      have HMX := Lib.hid (show oopI l (k + 1) < 4294967296 by
        unfold oopI
        split
        · rename_i h1; have := posOf_take_lt G (k + 1) h1; omega
        · omega)
      have HTK := Lib.hid (show (List.finRange l.length).take k ++ [⟨k, hlt⟩] = (List.finRange l.length).take (k + 1) by
        rw [List.take_add_one, List.getElem?_eq_getElem (by simpa using hlt)]; simp)
      have HPL := Lib.hid (show ((List.finRange l.length).take k).length < l.length by simp; omega)
      have HAV := Lib.hid (show allV l ⟨k, hlt⟩ = #[.int .u32 ((2 * posOf (l.take k) : Nat) : Int), .agg #[.int .i64 (l[k].x.size : Nat), .int .i64 (l[k].x.fmt : Nat), .int .i64 (l[k].x.spare : Nat), .int .u32 (l[k].x.cls : Nat), .int .u32 (l[k].x.ser : Nat)]] from rfl)
      have HXV := Lib.hid (show (h.hd (posOf (l.take k))).val = .agg #[.int .i64 (l[k].x.size : Nat), .int .i64 (l[k].x.fmt : Nat), .int .i64 (l[k].x.spare : Nat), .int .u32 (l[k].x.cls : Nat), .int .u32 (l[k].x.ser : Nat)] by rw [HX.out]; rfl)
      have HK := Lib.hid (show HAt wr pc h ∧ Spares wr ∧ J ((List.finRange l.length).take k) wr ∧ ∀ j, (pc.has j ∨ j = 0) → Safe wr j from ⟨Hk, hsk, hjk, hsfk⟩)
      have HYk := Lib.hid (fun W1 hj => HY.out ((List.finRange l.length).take k) ⟨k, hlt⟩ W1 hj HPL.out)
      rw [HAV.out] at HYk
      rw [hO.out]
      rw [HXV.out] at HHD
      rw [HNV.out] at HNX
      rw [half_pos] at HAT
      clear Hk hsk hjk hsfk hB hO HX hN HXV HNV HAV HPL HH
      generalize (⟨k, hlt⟩ : Fin l.length) = xk at *
      generalize l[k].x = X at *
      have ho : (((2 * posOf (l.take k) : Nat) : Int) != 0) = true := by simp; omega
      have HO32 := Lib.hid (show 2 * posOf (l.take k) < 4294967296 ∧ 0 < 2 * posOf (l.take k) by omega)
      generalize hq : 2 * posOf (l.take k) = o at *
      clear hq
      generalize posOf (l.take k) = q at *
      unfold ptr at HAT HHD HNX
      gi_wp2_with fail
      refine ⟨trivial, fun hh => (by cases hh), (callsIn_wide.2 (HAT.out _)).mono ?_⟩
      rintro e W3 ⟨rfl, rfl⟩
      gi_wp2_with fail
      refine ⟨trivial, fun hh => (by cases hh), (callsIn_wide.2 (HHD.out _ HK.out.1 HK.out.2.1)).mono ?_⟩
      rintro e W4 ⟨rfl, hb4⟩
      have HK4 := Lib.hid (show HAt W4 pc h ∧ Spares W4 ∧ J ((List.finRange l.length).take k) W4 ∧ ∀ j, (pc.has j ∨ j = 0) → Safe W4 j from ⟨HK.out.1.below hb4, HK.out.2.1.below hb4, HJ.out _ _ _ HK.out.2.2.1 hb4, fun j hj => HBL.out _ _ _ hb4 (HK.out.2.2.2 j hj)⟩)
      clear hb4 HK
      obtain ⟨fn, tmps, assign, body, hy, hR⟩ := HYk.out W4 HK4.out.2.2.1
      gi_wp2_with fail
      refine ⟨fun hh => (by cases hh), hR.mono ?_⟩
      rintro e W5 (⟨rfl, hJ5, hk5⟩ | ⟨rfl, hx5⟩)
      · have HK5 := Lib.hid (show HAt W5 pc h ∧ Spares W5 ∧ J ((List.finRange l.length).take (k + 1)) W5 ∧ ∀ j, (pc.has j ∨ j = 0) → Safe W5 j from
          hat_safe HK4.out.1 HK4.out.2.1 (fun j cs t fr hj hh => HSA.out W4 W5 j cs t fr hk5 (HK4.out.2.2.2 j hj) hh) (by rw [← HTK.out]; exact hJ5))
        clear hJ5 hk5 hy hR HK4
        gi_wp2_with fail
        refine ⟨trivial, fun hh => (by cases hh), (callsIn_wide.2 (HNX.out _ HK5.out.1 HK5.out.2.1)).mono ?_⟩
        rintro e W6 ⟨rfl, hb6⟩
        have HK6 := Lib.hid (show HAt W6 pc h ∧ Spares W6 ∧ J ((List.finRange l.length).take (k + 1)) W6 ∧ ∀ j, (pc.has j ∨ j = 0) → Safe W6 j from ⟨HK5.out.1.below hb6, HK5.out.2.1.below hb6, HJ.out _ _ _ HK5.out.2.2.1 hb6, fun j hj => HBL.out _ _ _ hb6 (HK5.out.2.2.2 j hj)⟩)
        clear hb6 HK5
        generalize hno : oopI l (k + 1) = no at *
        have HNO := Lib.hid hno
        clear hno
        gi_wp2_with fail
        go_roundw
        case rel => exact ⟨k + 1, by omega, by rw [HNO.out], HK6.out.1, HK6.out.2.1, HK6.out.2.2⟩
        case measure => exact mesO_lt HME.out HO32.out.2 HO32.out.1 HMX.out
      · clear hy HK4
        gi_wp2_with fail
        refine bodyPost_ret (results_none rfl _ _ _) rfl ?_
        exact ⟨⟨_, rfl⟩, .inr ⟨_, ⟨(List.finRange l.length).drop (k + 1), by rw [HTK.out, List.take_append_drop]⟩, hx5⟩⟩
    · obtain rfl : k = l.length := by omega
      have hO := Lib.hid (show oopI l l.length = 0 by unfold oopI; rw [if_neg hlt])
      have HFin := Lib.hid (show J (List.finRange l.length) wr by have := hjk; rw [List.take_of_length_le (by simp)] at this; exact this)
      rw [hO.out]
      clear Hk hsk hjk hsfk hlt hk
      gi_wp2_with fail
      go_end0
      exact ⟨⟨_, rfl⟩, .inl ⟨_, rfl, HFin.out⟩⟩
end Go.Proofs.YtblekggklimpeaaGreatDoor

namespace Go.Proofs.YtblekggklimpeaaGreatDoor
open Go.RowKit
/-- Each was come to from one ahead of it, or from none. -/
def ByLt (W : Wk) : Prop := ∀ k, ∀ hk : k < W.length, -1 ≤ (W[k]).2 ∧ (W[k]).2 < (k : Int)
theorem putW_by {W : Wk} {o : Nat} {b : Int} (h : ByLt W) (h1 : -1 ≤ b) (h2 : b < (W.length : Int)) : ByLt (putW W o b) := by
  unfold putW
  split
  · intro k hk
    by_cases hlt : k < W.length
    · rw [List.getElem_append_left hlt]
      exact h k hlt
    · rw [List.length_append] at hk
      simp at hk
      obtain rfl : k = W.length := by omega
      simp
      exact ⟨h1, h2⟩
  · exact h
theorem putsW_by {W : Wk} {os : List Nat} {b : Int} (h : ByLt W) (h1 : -1 ≤ b) (h2 : b < (W.length : Int)) : ByLt (putsW W os b) := by
  induction os generalizing W with
  | nil => exact h
  | cons o os ih =>
    rw [putsW_cons]
    refine ih (putW_by h h1 h2) ?_
    have := (putW_pre W o b).length_le
    omega
theorem walkF_by (nm : Nat → List Nat) : ∀ (f i : Nat) (W : Wk), ByLt W → ByLt (walkF nm f i W)
  | 0, _, _, h => h
  | f + 1, i, W, h => by
    unfold walkF
    split
    · rename_i hi
      exact walkF_by nm f (i + 1) _ (putsW_by h (by omega) (by omega))
    · exact h
theorem walkM_by (nm : Nat → List Nat) (fr : List Nat) : ByLt (walkM nm fr) := by
  unfold walkM
  refine walkF_by nm _ _ _ ?_
  have : ∀ (os : List Nat) (W : Wk), ByLt W → ByLt (putsW W os (-1)) := by
    intro os
    induction os with
    | nil => intro W h; exact h
    | cons o os ih =>
      intro W h
      rw [putsW_cons]
      exact ih _ (putW_by h (by omega) (by omega))
  exact this fr [] (fun k hk => by simp at hk)
/-- From one on, back to a beginning. -/
def upL (W : Wk) : Nat → Int → List Nat
  | 0, _ => []
  | f + 1, k => if 0 ≤ k then (W.getD k.toNat (0, 0)).1 :: upL W f (W.getD k.toNat (0, 0)).2 else []
def upK (W : Wk) (k : Int) : List Nat := upL W (k + 1).toNat k
theorem getD_W {W : Wk} {k : Nat} (hk : k < W.length) : W.getD k (0, 0) = W[k] := by rw [List.getD_eq_getElem?_getD, List.getElem?_eq_getElem hk]; rfl
theorem upL_more {W : Wk} (hb : ByLt W) : ∀ (f f' : Nat) (k : Int), k < (W.length : Int) → (k + 1).toNat ≤ f → (k + 1).toNat ≤ f' → upL W f k = upL W f' k
  | 0, 0, _, _, _, _ => rfl
  | 0, f' + 1, k, _, h1, _ => by
    unfold upL
    rw [if_neg (by omega)]
  | f + 1, 0, k, _, _, h2 => by
    unfold upL
    rw [if_neg (by omega)]
  | f + 1, f' + 1, k, hk, h1, h2 => by
    unfold upL
    by_cases h0 : 0 ≤ k
    · rw [if_pos h0, if_pos h0]
      have hl : k.toNat < W.length := by omega
      rw [getD_W hl]
      have hb' := hb k.toNat hl
      rw [upL_more hb f f' (W[k.toNat]).2 (by omega) (by omega) (by omega)]
    · rw [if_neg h0, if_neg h0]
theorem upK_neg {W : Wk} {k : Int} (hk : k < 0) : upK W k = [] := by
  unfold upK
  rw [show (k + 1).toNat = 0 by omega]
  rfl
theorem upK_step {W : Wk} (hb : ByLt W) {k : Nat} (hk : k < W.length) : upK W (k : Int) = (W[k]).1 :: upK W (W[k]).2 := by
  unfold upK
  rw [show ((k : Int) + 1).toNat = k + 1 by omega]
  conv => lhs; unfold upL
  rw [if_pos (by omega), Int.toNat_natCast, getD_W hk]
  have hb' := hb k hk
  rw [upL_more hb k ((W[k]).2 + 1).toNat (W[k]).2 (by omega) (by omega) (Nat.le_refl _)]
theorem upK_len {W : Wk} (hb : ByLt W) : ∀ (n : Nat) (k : Int), (k + 1).toNat ≤ n → k < (W.length : Int) → (upK W k).length ≤ n
  | n, k, h1, h2 => by
    by_cases h0 : 0 ≤ k
    · obtain ⟨j, rfl⟩ := Int.eq_ofNat_of_zero_le h0
      have hj : j < W.length := by omega
      rw [upK_step hb hj, List.length_cons]
      have hb' := hb j hj
      have := upK_len hb (n - 1) (W[j]).2 (by omega) (by omega)
      omega
    · rw [upK_neg (by omega)]
      exact Nat.zero_le _
  termination_by n k => (k + 1).toNat
  decreasing_by omega
/-- The way from a beginning to one. -/
def pathL (W : Wk) (o : Nat) : List Nat := if o ∈ metO W then (o :: upK W (byOf W o)).reverse else []
theorem pathL_at {W : Wk} (hb : ByLt W) (hd : (metO W).Nodup) {i : Nat} (hi : i < W.length) : pathL W (W[i]).1 = (upK W (i : Int)).reverse := by
  unfold pathL
  have hm : (W[i]).1 ∈ metO W := List.mem_map.2 ⟨W[i], List.getElem_mem hi, rfl⟩
  rw [if_pos hm, byOf_at hd hi, upK_step hb hi]
theorem pathL_no {W : Wk} {o : Nat} (h : o ∉ metO W) : pathL W o = [] := by unfold pathL; rw [if_neg h]
end Go.Proofs.YtblekggklimpeaaGreatDoor

namespace Go.Proofs.YtblekggklimpeaaGreatDoor
open Go.RowKit
attribute [local go_sem] Oper.semAt_some
/-- The box's slice has the block k of its own. -/
def Hat (w : World) (b k : Nat) : Prop := ∃ v, w.cell? ⟨b, 0, none⟩ = some v ∧ v.ownBlock = some k
structure KpR (m0 n0 b : Nat) (A B : World) : Prop where
  os : B.os = A.os
  tape : B.tape = A.tape
  output : B.output = A.output
  size : A.heap.size ≤ B.heap.size
  cells : ∀ k cs t fr, k < m0 ∨ n0 ≤ k → ¬ Hat A b k → A.heap[k]? = some (.cells cs t fr) → B.heap[k]? = some (.cells cs t fr)
  box : ∀ k, Hat B b k → k < A.heap.size → Hat A b k
theorem KpR.trans {m0 n0 b : Nat} {A B C : World} (h : KpR m0 n0 b A B) (k : KpR m0 n0 b B C) : KpR m0 n0 b A C :=
  ⟨k.os.trans h.os, k.tape.trans h.tape, k.output.trans h.output, Nat.le_trans h.size k.size,
    fun j cs t fr hj hn ha => k.cells j cs t fr hj (fun hb => hn (h.box j hb (lt_of_get ha))) (h.cells j cs t fr hj hn ha),
    fun j hc hj => h.box j (k.box j hc (Nat.lt_of_lt_of_le hj h.size)) hj⟩
theorem KpR.book {m0 n0 b : Nat} (W : World) (l : Nat) (o o' : Obj) (hb : b < l) (h : W.heap[l]? = some o) (hc : o.isCells = false) : KpR m0 n0 b W (W.putObj l o') := by
  have hg := grownBy_putObj' W l o'
  have hk : ∀ (k : Nat) (cs : Array Value) (t : TypeId) (fr : Nat × Nat), W.heap[k]? = some (Obj.cells cs t fr) → (W.putObj l o').heap[k]? = some (Obj.cells cs t fr) := fun k cs t fr hk => by
    have hne : k ≠ l := by rintro rfl; rw [hk] at h; injection h with h; subst h; simp [Obj.isCells] at hc
    exact (hg.block k (lt_of_get hk) (fun e => hne (by injection e))).trans hk
  refine ⟨rfl, rfl, rfl, by simp, fun k cs t fr _ _ h1 => hk k cs t fr h1, fun k ⟨v, hv, ho⟩ _ => ⟨v, ?_, ho⟩⟩
  rw [← hv]
  have hbl : b < W.heap.size := Nat.lt_trans hb (lt_of_get h)
  exact (World.cell?_of_block (a := ⟨b, 0, none⟩) (hg.block b hbl (fun e => by injection e with e; omega))).symm
def SafeR (m0 n0 b : Nat) (A : World) (k : Nat) : Prop := (k < m0 ∨ n0 ≤ k) ∧ b < A.heap.size ∧ ¬ Hat A b k
theorem SafeR.step {m0 n0 b : Nat} {A B : World} {k : Nat} {cs : Array Value} {t : TypeId} {fr : Nat × Nat} (h : KpR m0 n0 b A B) (s : SafeR m0 n0 b A k) (ha : A.heap[k]? = some (.cells cs t fr)) :
    B.heap[k]? = some (.cells cs t fr) ∧ SafeR m0 n0 b B k :=
  ⟨h.cells k cs t fr s.1 s.2.2 ha, s.1, Nat.lt_of_lt_of_le s.2.1 h.size, fun hb => s.2.2 (h.box k hb (lt_of_get ha))⟩
theorem Hat.below {A B : World} {b k : Nat} (h : Below A.heap.size A B) (hb : b < A.heap.size) : Hat B b k ↔ Hat A b k := by
  unfold Hat
  rw [World.cell?_of_block (a := ⟨b, 0, none⟩) (h.block b hb)]
theorem SafeR.below {m0 n0 b : Nat} {A B : World} {k : Nat} (h : Below A.heap.size A B) (s : SafeR m0 n0 b A k) : SafeR m0 n0 b B k :=
  ⟨s.1, Nat.lt_of_lt_of_le s.2.1 h.size, fun hb => s.2.2 ((Hat.below h s.2.1).1 hb)⟩
theorem SafeR.new {m0 b : Nat} {W0 W : World} {k : Nat} (hb : Blk W0 b 23 #[.slice none 0 0]) (h : Below W0.heap.size W0 W) (hk : k < m0 ∨ W0.heap.size ≤ k) : SafeR m0 W0.heap.size b W k := by
  refine ⟨hk, Nat.lt_of_lt_of_le hb.lt h.size, fun ⟨v, hv, ho⟩ => ?_⟩
  have h1 : W.cell? ⟨b, 0, none⟩ = some (.slice none 0 0) := (hb.below h hb.lt).cell 0
  rw [hv] at h1
  injection h1 with h1
  subst h1
  cases ho
/-- What the body keeps: all that lay ahead of the loop but the box, whose row grows. -/
structure BoxR (W0 : World) (b : Nat) (xs : List Nat) (v : Value) (W : World) : Prop where
  os : W.os = W0.os
  tape : W.tape = W0.tape
  output : W.output = W0.output
  size : W0.heap.size ≤ W.heap.size
  low : ∀ k, k < W0.heap.size → k ≠ b → W.heap[k]? = W0.heap[k]?
  box : Blk W b 23 #[v]
  own : W.ownsRow W0.heap.size 43 1 v xs.length (u32s xs)
  hb : b < W0.heap.size
section
variable {W0 W W1 Wx : World} {b m0 : Nat} {xs : List Nat} {v v' : Value}
theorem BoxR.start (hb : Blk W0 b 23 #[.slice none 0 0]) : BoxR W0 b [] (.slice none 0 0) W0 :=
  ⟨rfl, rfl, rfl, Nat.le_refl _, fun _ _ _ => rfl, hb, ⟨rfl, .inl ⟨rfl, rfl⟩⟩, hb.lt⟩
theorem BoxR.below (C : BoxR W0 b xs v W) (h : Below W.heap.size W W1) : BoxR W0 b xs v W1 :=
  ⟨h.os.trans C.os, h.tape.trans C.tape, h.output.trans C.output, Nat.le_trans C.size h.size, fun k hk hn => (h.block k (Nat.lt_of_lt_of_le hk C.size)).trans (C.low k hk hn), C.box.below h C.box.lt, own_below C.own h, C.hb⟩
theorem BoxR.blk (C : BoxR W0 b xs v W) {g : Nat} {t : TypeId} {cs : Array Value} (h : Blk W0 g t cs) (hn : g ≠ b) : Blk W g t cs := h.same (C.low g h.lt hn)
theorem BoxR.toBelow (C : BoxR W0 b xs v W) {w : World} (h : Below w.heap.size w W0) (hb : w.heap.size ≤ b) : Below w.heap.size w W :=
  ⟨C.os.trans h.os, C.tape.trans h.tape, C.output.trans h.output, Nat.le_trans h.size C.size, fun k hk => (C.low k (Nat.lt_of_lt_of_le hk h.size) (by omega)).trans (h.block k hk)⟩
theorem BoxR.own' (C : BoxR W0 b xs v W) {row : Option Nat} (hg : W.grownBy W1 row) (hr : ∀ r, row = some r → W0.heap.size ≤ r ∧ ∃ o : Obj, W.heap[r]? = some o ∧ o.isCells = false) : BoxR W0 b xs v W1 := by
  have hlow : ∀ k, k < W0.heap.size → W1.heap[k]? = W.heap[k]? := fun k hk => hg.block k (Nat.lt_of_lt_of_le hk C.size) (fun e => by have := (hr k e.symm).1; omega)
  refine ⟨hg.os.trans C.os, hg.tape.trans C.tape, hg.output.trans C.output, Nat.le_trans C.size hg.size, fun k hk hn => (hlow k hk).trans (C.low k hk hn), C.box.same (hlow b C.hb), own_keep C.own (fun k hk => hg.block k (C.own.lt k hk).2 (fun e => ?_)), C.hb⟩
  obtain ⟨_, o, ho, hc⟩ := hr k e.symm
  rcases C.own.2 with ⟨h1, _⟩ | ⟨g', cap, cur, h1, _, h3, _⟩
  · rw [h1] at hk; cases hk
  · rw [h1] at hk
    injection hk with hk
    subst hk
    rw [h3] at ho
    injection ho with ho
    subst ho
    cases hc
theorem BoxR.kp_refl (C : BoxR W0 b xs v W) (h : Below W.heap.size W W1) (n0 : Nat) : KpR m0 n0 b W W1 :=
  ⟨h.os, h.tape, h.output, h.size, fun k cs t fr _ _ hh => (h.block k (lt_of_get hh)).trans hh, fun k hk _ => (Hat.below h C.box.lt).1 hk⟩
theorem BoxR.box_app (C : BoxR W0 b xs v W) (h : Below W.heap.size W Wx) (hg : Wx.grownBy W1 v.ownBlock) : W1.cell? ⟨b, 0, none⟩ = some v ∧ W1.frozen? ⟨b, 0, none⟩ = false := by
  have hbv : v.ownBlock ≠ some b := fun e => by have := (C.own.lt b e).1; have := C.hb; omega
  have hb1 : Blk W1 b 23 #[v] := C.box.same ((hg.block b (Nat.lt_of_lt_of_le C.box.lt h.size) (fun e => hbv e.symm)).trans (h.block b C.box.lt))
  exact ⟨hb1.cell 0, hb1.frozen 0⟩
/-- A round that appends. -/
theorem BoxR.app (C : BoxR W0 b xs v W) (h : Below W.heap.size W Wx) {y : Nat} (hown : W1.ownsRow W0.heap.size 43 1 v' (xs.length + 1) (u32s xs ++ [.int .u32 (y : Int)])) (hg : Wx.grownBy W1 v.ownBlock)
    (hat : v'.ownBlock = v.ownBlock ∨ v'.ownBlock = some Wx.heap.size) (hm : m0 ≤ b) :
    KeepsFrom W0.heap.size W (W1.setCell ⟨b, 0, none⟩ v') ∧ KpR m0 W0.heap.size b W (W1.setCell ⟨b, 0, none⟩ v') ∧ BoxR W0 b (xs ++ [y]) v' (W1.setCell ⟨b, 0, none⟩ v') := by
  have hsz : (W1.setCell ⟨b, 0, none⟩ v').heap.size = W1.heap.size := by simp [World.setCell]
  have hle : W.heap.size ≤ W1.heap.size := Nat.le_trans h.size hg.size
  have hfar : ∀ k, k < W.heap.size → k ≠ b → v.ownBlock ≠ some k → (W1.setCell ⟨b, 0, none⟩ v').heap[k]? = W.heap[k]? := fun k hk h1 h2 =>
    (Below.heap_setCell W1 ⟨b, 0, none⟩ v' k h1).trans ((hg.block k (Nat.lt_of_lt_of_le hk h.size) (fun e => h2 e.symm)).trans (h.block k hk))
  have hbv : v.ownBlock ≠ some b := fun e => by have := (C.own.lt b e).1; have := C.hb; omega
  have hbx := C.box.lt
  have hb1 : Blk W1 b 23 #[v] := C.box.same ((hg.block b (Nat.lt_of_lt_of_le hbx h.size) (fun e => hbv e.symm)).trans (h.block b hbx))
  have hbn : Blk (W1.setCell ⟨b, 0, none⟩ v') b 23 #[v'] := hb1.set_ 0 _
  have hcn : (W1.setCell ⟨b, 0, none⟩ v').cell? ⟨b, 0, none⟩ = some v' := hbn.cell 0
  have hc0 : W.cell? ⟨b, 0, none⟩ = some v := C.box.cell 0
  have hobj : ∀ k (o : Obj), W.heap[k]? = some o → o.isCells = false → (W1.setCell ⟨b, 0, none⟩ v').heap[k]? = some o := fun k o ho hc => by
    refine (hfar k (lt_of_get ho) ?_ ?_).trans ho
    · rintro rfl
      have := C.box
      unfold Blk at this
      rw [this] at ho; injection ho with ho; subst ho; cases hc
    · intro e
      rcases C.own.2 with ⟨h1, _⟩ | ⟨g', cap, cur, h1, _, h3, _⟩
      · rw [h1] at e; cases e
      · rw [h1] at e
        injection e with e
        subst e
        rw [h3] at ho; injection ho with ho; subst ho; cases hc
  refine ⟨⟨by rw [hsz]; exact hle, fun k o _ ho hc => hobj k o ho hc⟩,
    ⟨hg.os.trans h.os, hg.tape.trans h.tape, hg.output.trans h.output, by rw [hsz]; exact hle, fun k cs t fr hk hn hh => (hfar k (lt_of_get hh) (by have := C.hb; omega) (fun e => hn ⟨v, hc0, e⟩)).trans hh, fun k ⟨u, hu, ho⟩ hk => ?_⟩,
    ⟨hg.os.trans (h.os.trans C.os), hg.tape.trans (h.tape.trans C.tape), hg.output.trans (h.output.trans C.output), by rw [hsz]; exact Nat.le_trans C.size hle, fun k hk hn => (hfar k (Nat.lt_of_lt_of_le hk C.size) hn (fun e => by have := (C.own.lt k e).1; omega)).trans (C.low k hk hn), hbn, ?_, C.hb⟩⟩
  · rw [hcn] at hu
    injection hu with hu
    subst hu
    refine ⟨v, hc0, ?_⟩
    rcases hat with e | e
    · rw [← e]; exact ho
    · rw [ho] at e; injection e with e; have := h.size; omega
  · rw [List.length_append, u32s_app]
    refine own_keep hown (fun k hk => Below.heap_setCell W1 ⟨b, 0, none⟩ v' k (fun e => ?_))
    subst e
    have := (hown.lt _ hk).1
    have := C.hb
    omega
end
end Go.Proofs.YtblekggklimpeaaGreatDoor

namespace Go.Proofs.YtblekggklimpeaaGreatDoor
open Go.RowKit
attribute [local go_sem] Oper.semAt_some
theorem wpListIn_app_any {F : Fence} {n : Nat} {P : Program} {ops : Array Oper} {rest : List Oper} {o : Oper} {a : Act} {Q : Exit → Act → World → Prop} (w : World) (hgd : o.guard = none) (s x : Operand) (t : TypeId)
    (ho : o.op = .call { callee := .builtin .append, args := #[s, x], argTypes := #[t, t] })
    (base : Nat) (e : TypeId) (i : TypeInfo) (z : Value) (size bytes : Nat) (ht : P.underlying t = some (.slice e)) (hi : P.info? e = some i) (hz : i.zero = some z)
    (hsize : i.size = size) (hby : i.bytes = bytes) (hzs : z.cells.size = size) (hsz : 0 < size)
    (v : Value) (k : Nat) (xs : List Value) (hs : a.eval s = v) (hown : w.ownsRow base e size v k xs)
    (B : Nat) (A : Option Addr) (m c : Nat) (news : List Value) (hx : a.eval x = .slice A m c) (hr : Reads w B size A m news) (h1 : ∀ u ∈ news, u.oneCell' = true)
    (h63 : k + m ≤ maxLen) (hbytes : (k + m) * bytes ≤ 140737488355328) (hbase : base ≤ w.heap.size)
    (h : ∀ v' w', w'.ownsRow base e size v' (k + m) (xs ++ news) → w.grownBy w' v.ownBlock → (v'.ownBlock = v.ownBlock ∨ v'.ownBlock = some w.heap.size) → wpListIn F n P ops Q rest (a.put o.dst v') w') : wpListIn F n P ops Q (o :: rest) a w := by
  refine wpListIn_plain hgd fun K hK' => ?_
  obtain ⟨v', w', hrun, h2, h3, h4⟩ := run_append_any (P := P) w base t o.type e i z size bytes ht hi hz hsize hby hzs hsz v k xs hown B A m c news hr h1 h63 hbytes hbase
  unfold Oper.wpIn
  refine ⟨?_, ?_⟩
  · simp [Oper.about, ho, resolve, Target.leads, Sem.run_pure]
  · rw [Oper.semAt_plain F _ _ (by rw [ho]; intro c hc'; cases hc')]
    simp [execOp, ho, resolve, invoke, builtin, hs, hx, hrun, Result.andThen]
    exact hK' _ _ (h _ _ h2 h3 h4)
/-- The picked among those that were handed out. -/
def selF (P : Nat → Bool) (l : List Ob) (pre : List (Fin l.length)) : List Nat := (pre.filter (fun i => P i.1)).map (fun i => 2 * posOf (l.take i.1))
theorem selF_yes {P : Nat → Bool} {l : List Ob} {pre : List (Fin l.length)} {x : Fin l.length} (h : P x.1 = true) : selF P l (pre ++ [x]) = selF P l pre ++ [2 * posOf (l.take x.1)] := by
  unfold selF
  rw [List.filter_append, List.map_append, List.filter_cons, if_pos h]
  rfl
theorem selF_no {P : Nat → Bool} {l : List Ob} {pre : List (Fin l.length)} {x : Fin l.length} (h : P x.1 = false) : selF P l (pre ++ [x]) = selF P l pre := by
  unfold selF
  rw [List.filter_append, List.map_append, List.filter_cons, if_neg (by rw [h]; decide)]
  simp
theorem selF_len (P : Nat → Bool) (l : List Ob) (pre : List (Fin l.length)) : (selF P l pre).length ≤ pre.length := by
  unfold selF
  rw [List.length_map]
  exact List.length_filter_le _ _
theorem selF_all (P : Nat → Bool) (l : List Ob) : selF P l (List.finRange l.length) = ((List.range l.length).filter P).map (fun i => 2 * posOf (l.take i)) := by
  have h : (List.range l.length) = (List.finRange l.length).map Fin.val := by
    apply List.ext_getElem
    · simp
    · intro i h1 h2; simp
  unfold selF
  rw [h, List.filter_map, List.map_map]
  rfl
end Go.Proofs.YtblekggklimpeaaGreatDoor

namespace Go.Proofs.YtblekggklimpeaaGreatDoor
open Go.RowKit
attribute [local go_sem] Oper.semAt_some
set_option maxHeartbeats 400000 in
theorem index_oop (A : Option Addr) (n c B : Nat) (fs : List Nat) (x : Nat) (w : World) (hn : n ≤ 9223372036854775807) (hr : Reads w B 1 A n (u32s fs)) :
    Calls Tryz.prog 76 #[.slice A n c, .int .u32 x] w (idxPost fs x w) := by
  have hl : fs.length = n := by have := hr.1; simpa [u32s] using this
  have HL := Lib.hid hl; clear hl
  have HR := Lib.hid hr; clear hr
  go_enter Tryz.func76, Tryz.ntmps76
  go_wp2_with fail
  go_loop [8] (fun i => ∃ k : Nat, k ≤ n ∧ i = .int .i64 k ∧ (fs.take k).contains x = false) (fun i => n - (intOf i).toNat)
  case atStart => exact ⟨0, by omega, rfl, by simp⟩
  case round =>
    obtain ⟨k, hk, rfl, hno⟩ := hrel
    have HNO := Lib.hid hno; clear hno
    by_cases hlt : k < n
    · obtain ⟨ad, u0, rfl, _, hx, hcell⟩ := HR.out.at_ hlt
      obtain ⟨y, hy, rfl⟩ := u32s_at hx
      clear hx
      have HY := Lib.hid hy; clear hy
      by_cases hxy : x = y
      · subst hxy
        go_wp2_with fail
        go_ret
        exact ⟨k, rfl, by rw [contains_of_get HY.out]; simp, by omega, by omega, rfl⟩
      · have hb : ((x : Int) == (y : Int)) = false := beq_eq_false_iff_ne.2 (by omega)
        have HXY := Lib.hid hxy; clear hxy
        go_wp2_with fail
        go_round
        case rel => exact ⟨k + 1, by omega, by go_num, take_contains_none HY.out HXY.out HNO.out⟩
        case measure => simp [intOf]; omega
    · obtain rfl : k = n := by omega
      have hall := HNO.out
      rw [List.take_of_length_le (by rw [HL.out]; omega)] at hall
      have HA := Lib.hid hall; clear hall
      go_wp2_with fail
      go_ret
      exact ⟨-1, rfl, by rw [HA.out]; simp, by omega, by omega, rfl⟩

theorem contains_oop (A : Option Addr) (n c B : Nat) (fs : List Nat) (x : Nat) (w : World) (hn : n ≤ 9223372036854775807) (hr : Reads w B 1 A n (u32s fs)) :
    Calls Tryz.prog 44 #[.slice A n c, .int .u32 x] w fun e w' => e = .returned (.bool (fs.contains x)) ∧ w = w' := by
  have HR := Lib.hid hr; clear hr
  go_enter Tryz.func44, Tryz.ntmps44
  go_wp2_with fail
  refine (index_oop A n c B fs x w hn HR.out).mono ?_
  rintro e w' ⟨j, rfl, hj, hlo, hhi, rfl⟩
  have HJ := Lib.hid hj; clear hj
  go_wp2_with fail
  go_ret
  exact ⟨by rw [← HJ.out]; rfl, rfl⟩

end Go.Proofs.YtblekggklimpeaaGreatDoor
