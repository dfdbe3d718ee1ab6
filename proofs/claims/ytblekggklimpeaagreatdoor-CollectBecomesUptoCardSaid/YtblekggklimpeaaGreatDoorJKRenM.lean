/- Names exchanged and given away, plain: what every word names then. -/
/- Renaming, step by step: what each deed on the heap does. -/
/- rename's function: what an oop becomes. -/
/- All of the program's heap, for a body that keeps what the caller says is safe; the relation of a body that grows a row of its own behind a box. -/
import Derived.Test.YtblekggklimpeaaGreatDoorJKNamed
import Derived.Test.YtblekggklimpeaaGreatDoorJMapOk
set_option linter.unusedVariables false
set_option linter.unusedSimpArgs false
set_option linter.unusedSectionVars false
namespace Go.Proofs.YtblekggklimpeaaGreatDoor
open Go.RowKit
/-- What a list of pairs makes of an oop. -/
def renO (pl : List (Nat × Nat)) (o : Nat) : Nat := match pl.find? (fun p => p.1 == o) with | some p => p.2 | none => o
def ren (r : Nat → Nat) (b : Ob) : Ob := ⟨{ b.x with cls := r b.x.cls }, if b.x.ptrB then b.fs.map r else b.fs⟩
def renH (r : Nat → Nat) (h : HM) (l : List Ob) : HM := { h with words := 0 :: wsOf (l.map (ren r)), roots := h.roots.map r }
/-- One object's turn: its class from what was told of it, its fields from what lies there. -/
def stepB (r : Nat → Nat) (c : Nat) (b : Ob) : Ob := ⟨{ b.x with cls := r c }, if b.x.ptrB then b.fs.map r else b.fs⟩
def stepL (r : Nat → Nat) (l : List Ob) (L : List Ob) (x : Fin l.length) : List Ob := L.set x.1 (stepB r (l[x.1]'x.2).x.cls (L.getD x.1 (l[x.1]'x.2)))
def rensL (r : Nat → Nat) (l : List Ob) (pre : List (Fin l.length)) : List Ob := pre.foldl (stepL r l) l
theorem rensL_snoc (r : Nat → Nat) (l : List Ob) (pre : List (Fin l.length)) (x : Fin l.length) : rensL r l (pre ++ [x]) = stepL r l (rensL r l pre) x := by
  unfold rensL
  rw [List.foldl_append]
  rfl
def shp (b : Ob) : Hd × Nat := ({ b.x with cls := 0 }, b.fs.length)
theorem shp_step (r : Nat → Nat) (c : Nat) (b : Ob) : shp (stepB r c b) = shp b := by
  unfold shp stepB
  simp only [Prod.mk.injEq, true_and]
  split <;> simp
theorem map_set_same {α β : Type} (g : α → β) (L : List α) (i : Nat) (v : α) (h : ∀ b, L[i]? = some b → g v = g b) : (L.set i v).map g = L.map g := by
  apply List.ext_getElem?
  intro j
  rw [List.getElem?_map, List.getElem?_map, List.getElem?_set]
  by_cases hj : i = j
  · subst hj
    rw [if_pos rfl]
    by_cases hl : i < L.length
    · rw [if_pos hl]
      rw [List.getElem?_eq_getElem hl]
      show some (g v) = some (g L[i])
      rw [h _ (List.getElem?_eq_getElem hl)]
    · rw [if_neg hl, List.getElem?_eq_none (by omega)]
  · rw [if_neg hj]
theorem stepL_shp (r : Nat → Nat) (l L : List Ob) (x : Fin l.length) : (stepL r l L x).map shp = L.map shp := by
  unfold stepL
  refine map_set_same shp L _ _ fun b hb => ?_
  rw [List.getD_eq_getElem?_getD, hb, Option.getD_some, shp_step]
theorem rensL_shp (r : Nat → Nat) (l : List Ob) (pre : List (Fin l.length)) : (rensL r l pre).map shp = l.map shp := by
  unfold rensL
  suffices ∀ L, L.map shp = l.map shp → (pre.foldl (stepL r l) L).map shp = l.map shp from this l rfl
  induction pre with
  | nil => exact fun L h => h
  | cons x pre ih => exact fun L h => ih _ ((stepL_shp r l L x).trans h)
theorem wsOf_shp : ∀ {L l : List Ob}, L.map shp = l.map shp → (wsOf L).length = (wsOf l).length
  | [], [], _ => rfl
  | [], _ :: _, h => by simp at h
  | _ :: _, [], h => by simp at h
  | b :: L, c :: l, h => by
    rw [List.map_cons, List.map_cons, List.cons.injEq] at h
    rw [wsOf_cons, wsOf_cons, List.length_append, List.length_append, b.ws_len, c.ws_len, wsOf_shp h.2]
    have := congrArg Prod.snd h.1
    unfold shp at this
    simp only at this
    omega
theorem posOf_shp {L l : List Ob} (h : L.map shp = l.map shp) (i : Nat) : posOf (L.take i) = posOf (l.take i) := by
  unfold posOf
  rw [wsOf_shp (L := L.take i) (l := l.take i) (by rw [List.map_take, List.map_take, h])]
theorem len_shp {L l : List Ob} (h : L.map shp = l.map shp) : L.length = l.length := by
  have := congrArg List.length h
  rwa [List.length_map, List.length_map] at this
theorem at_shp {L l : List Ob} (h : L.map shp = l.map shp) {i : Nat} (hi : i < L.length) (hj : i < l.length) : shp L[i] = shp l[i] := by
  have h1 : (L.map shp)[i]? = (l.map shp)[i]? := by rw [h]
  rw [List.getElem?_map, List.getElem?_map, List.getElem?_eq_getElem hi, List.getElem?_eq_getElem hj] at h1
  exact Option.some.inj h1
theorem set_mid' {L : List Ob} {i : Nat} (hi : i < L.length) (v : Ob) : L.set i v = L.take i ++ v :: L.drop (i + 1) := by
  apply List.ext_getElem?
  intro j
  rw [List.getElem?_set, List.getElem?_append]
  have hl : (L.take i).length = i := by rw [List.length_take]; omega
  rw [hl]
  by_cases h1 : i = j
  · subst h1
    rw [if_pos rfl, if_pos hi, if_neg (by omega), Nat.sub_self]
    rfl
  · rw [if_neg h1]
    by_cases h2 : j < i
    · rw [if_pos h2, List.getElem?_take, if_pos h2]
    · rw [if_neg h2]
      obtain ⟨m, rfl⟩ : ∃ m, j = i + 1 + m := ⟨j - (i + 1), by omega⟩
      rw [show i + 1 + m - i = m + 1 by omega, List.getElem?_cons_succ, List.getElem?_drop]
theorem rens_take (r : Nat → Nat) (l : List Ob) : ∀ k, k ≤ l.length → rensL r l ((List.finRange l.length).take k) = (l.take k).map (ren r) ++ l.drop k
  | 0, _ => by simp [rensL]
  | k + 1, hk => by
    have hk' : k < l.length := by omega
    have hf : (List.finRange l.length).take (k + 1) = (List.finRange l.length).take k ++ [⟨k, hk'⟩] := by
      rw [List.take_add_one, List.getElem?_eq_getElem (by simpa using hk')]
      simp
    rw [hf, rensL_snoc, rens_take r l k (by omega)]
    have hlen : ((l.take k).map (ren r)).length = k := by rw [List.length_map, List.length_take]; omega
    have hd : l.drop k = l[k] :: l.drop (k + 1) := by rw [List.getElem_cons_drop]
    unfold stepL
    simp only
    have hg : ((l.take k).map (ren r) ++ l.drop k).getD k l[k] = l[k] := by
      rw [List.getD_eq_getElem?_getD, List.getElem?_append_right (by omega), hlen, Nat.sub_self, hd]
      rfl
    rw [hg]
    have hs : ((l.take k).map (ren r) ++ l.drop k).set k (stepB r l[k].x.cls l[k]) = (l.take k).map (ren r) ++ (stepB r l[k].x.cls l[k] :: l.drop (k + 1)) := by
      rw [List.set_append_right _ _ (by omega), hlen, Nat.sub_self, hd]
      rfl
    rw [hs, List.take_add_one, List.getElem?_eq_getElem hk', List.map_append, List.append_assoc]
    rfl
theorem rens_all (r : Nat → Nat) (l : List Ob) : rensL r l (List.finRange l.length) = l.map (ren r) := by
  have h := rens_take r l l.length (Nat.le_refl _)
  rw [List.take_of_length_le (by simp), List.take_of_length_le (Nat.le_refl _), List.drop_of_length_le (Nat.le_refl _), List.append_nil] at h
  exact h
/-- What renaming may do to a heap's names. -/
structure RenOk (h : HM) (r : Nat → Nat) : Prop where
  lt : ∀ o, o < 4294967296 → r o < 4294967296
  cls : ∀ o, h.clsB o = true → h.clsB (r o) = true
  val : ∀ o, h.valB o = true → h.valB (r o) = true
theorem RenOk.same {h h' : HM} {r : Nat → Nat} (R : RenOk h r) (hs : h'.starts = h.starts) : RenOk h' r :=
  ⟨R.lt, fun o => by rw [HM.clsB_same hs, HM.clsB_same hs]; exact R.cls o, fun o => by rw [HM.valB_same hs, HM.valB_same hs]; exact R.val o⟩
/-- The heap under way. -/
structure RenSt (r : Nat → Nat) (h : HM) (l : List Ob) (L : List Ob) (hk : HM) : Prop where
  good : hk.Good L
  same_ : L.map shp = l.map shp
  size : hk.size = h.size
  last : hk.last = h.last
  starts : hk.starts = h.starts
theorem RenSt.start {r : Nat → Nat} {h : HM} {l : List Ob} (G : h.Good l) : RenSt r h l l h := ⟨G, rfl, rfl, rfl, rfl⟩
theorem RenSt.fin {r : Nat → Nat} {h hk : HM} {l : List Ob} (R : RenSt r h l (l.map (ren r)) hk) (hr : hk.roots = h.roots.map r) : hk = renH r h l := by
  have hw := R.good.laid.words
  have h1 := R.size
  have h2 := R.last
  have h3 := R.starts
  cases hk
  unfold renH
  simp only at hw hr h1 h2 h3
  subst hw hr h1 h2 h3
  rfl
end Go.Proofs.YtblekggklimpeaaGreatDoor

namespace Go.Proofs.YtblekggklimpeaaGreatDoor
open Go.RowKit
section
variable {r : Nat → Nat} {h hk : HM} {l L : List Ob}
theorem good_at (G : h.Good l) {x : Nat} (hx : x < l.length) : h.Good (l.take x ++ l[x] :: l.drop (x + 1)) := by rw [← split_at l x hx]; exact G
theorem RenSt.isB (S : RenSt r h l L hk) {x : Nat} (hx : x < L.length) : hk.isB (2 * posOf (l.take x)) = true := by
  rw [← posOf_shp S.same_ x]; exact isB_at S.good x hx
theorem RenSt.hd (S : RenSt r h l L hk) {x : Nat} (hx : x < L.length) : hk.hd (posOf (l.take x)) = (L[x]).x := by
  rw [← posOf_shp S.same_ x]; exact hd_at' S.good x hx
theorem RenSt.flds (S : RenSt r h l L hk) {x : Nat} (hx : x < L.length) : hk.fields (2 * posOf (l.take x)) = (L[x]).fs := by
  rw [← posOf_shp S.same_ x]
  exact (good_at S.good hx).laid.fields_at
theorem RenSt.setCls (S : RenSt r h l L hk) {x : Nat} (hx : x < L.length) {c : Nat} (h32 : c < 4294967296) (hc : hk.clsB c = true) :
    hk.setClassE (2 * posOf (l.take x)) c = 0 ∧ RenSt r h l (L.set x ⟨{ (L[x]).x with cls := c }, (L[x]).fs⟩) (hk.setClassH (2 * posOf (l.take x)) c) ∧ (hk.setClassH (2 * posOf (l.take x)) c).roots = hk.roots := by
  have hE : hk.setClassE (2 * posOf (l.take x)) c = 0 := by
    unfold HM.setClassE
    rw [S.isB hx, hc]
    rfl
  have hH : hk.setClassH (2 * posOf (l.take x)) c = { hk with words := hk.words.set (posOf (l.take x) + 1) c } := by
    unfold HM.setClassH
    rw [if_pos hE, half_pos]
  rw [hH]
  refine ⟨hE, ⟨?_, ?_, S.size, S.last, S.starts⟩, rfl⟩
  · have G := (good_at S.good hx).setCls c h32 hc
    rw [posOf_shp S.same_ x] at G
    rw [set_mid' hx]
    exact G
  · refine (map_set_same shp L x _ fun b hb => ?_).trans S.same_
    rw [List.getElem?_eq_getElem hx] at hb
    injection hb with hb
    subst hb
    rfl
theorem RenSt.field (S : RenSt r h l L hk) {x : Nat} (hx : x < L.length) (hp : (L[x]).x.ptrB = true) {j : Nat} (hj : j < (L[x]).fs.length) : (L[x]).fs[j] < 4294967296 ∧ hk.valB (L[x]).fs[j] = true :=
  ⟨(S.good.laid.ok _ (List.getElem_mem hx)).f32 _ (List.getElem_mem hj), S.good.sound.flds _ (List.getElem_mem hx) hp _ (List.getElem_mem hj)⟩
theorem RenSt.put (S : RenSt r h l L hk) {x : Nat} (hx : x < L.length) (hp : (L[x]).x.ptrB = true) {j : Nat} (hj : j < (L[x]).fs.length) {v : Nat} (h32 : v < 4294967296) (hv : hk.valB v = true) :
    hk.putE (2 * posOf (l.take x)) (j : Int) v = 0 ∧ RenSt r h l (L.set x ⟨(L[x]).x, (L[x]).fs.set j v⟩) (hk.putH (2 * posOf (l.take x)) (j : Int) v) ∧ (hk.putH (2 * posOf (l.take x)) (j : Int) v).roots = hk.roots := by
  have hok := S.good.laid.ok _ (List.getElem_mem hx)
  have hf : (L[x]).x.fmt = 1 ∨ (L[x]).x.fmt = 4 := by
    unfold Hd.ptrB at hp
    simpa using hp
  have hlen : (L[x]).x.len = (L[x]).x.size := by unfold Hd.len; rw [if_neg (by omega)]
  have hE : hk.putE (2 * posOf (l.take x)) (j : Int) v = 0 := by
    have h2 : [1, 4].contains (L[x]).x.fmt = true := by rcases hf with e | e <;> rw [e] <;> decide
    have hlk : hk.lookE (2 * posOf (l.take x)) (j : Int) [1, 4] = 0 := by
      unfold HM.lookE
      rw [S.isB hx, half_pos, S.hd hx, if_neg (by simp), h2, if_neg (by simp), hlen, if_neg (by have := hok.size; omega)]
    unfold HM.putE
    rw [if_pos hlk, if_pos hv]
  have hH : hk.putH (2 * posOf (l.take x)) (j : Int) v = hk.setF (2 * posOf (l.take x)) j v := by
    unfold HM.putH
    rw [if_pos hE, Int.toNat_natCast]
  rw [hH]
  refine ⟨hE, ⟨?_, ?_, S.size, S.last, S.starts⟩, rfl⟩
  · have G := (good_at S.good hx).setF j v hj h32 (fun _ => hv) (fun e => by omega)
    rw [posOf_shp S.same_ x] at G
    rw [set_mid' hx]
    exact G
  · refine (map_set_same shp L x _ fun b hb => ?_).trans S.same_
    rw [List.getElem?_eq_getElem hx] at hb
    injection hb with hb
    subst hb
    simp [shp]
theorem take_map_set (r : Nat → Nat) (fs : List Nat) {j : Nat} (hj : j < fs.length) : ((fs.take j).map r ++ fs.drop j).set j (r fs[j]) = (fs.take (j + 1)).map r ++ fs.drop (j + 1) := by
  have hlen : ((fs.take j).map r).length = j := by rw [List.length_map, List.length_take]; omega
  rw [List.set_append_right _ _ (by omega), hlen, Nat.sub_self, ← List.getElem_cons_drop (h := hj), List.take_add_one, List.getElem?_eq_getElem hj, List.map_append, List.append_assoc]
  rfl
theorem take_map_get (r : Nat → Nat) (fs : List Nat) {j : Nat} (hj : j < fs.length) : ∃ h : j < ((fs.take j).map r ++ fs.drop j).length, ((fs.take j).map r ++ fs.drop j)[j] = fs[j] := by
  have hlen : ((fs.take j).map r).length = j := by rw [List.length_map, List.length_take]; omega
  refine ⟨by rw [List.length_append, hlen, List.length_drop]; omega, ?_⟩
  rw [List.getElem_append_right (by omega)]
  simp only [hlen, Nat.sub_self, List.getElem_drop]
  rfl
/-- One field's turn. -/
theorem RenSt.step {X : Hd} {fs : List Nat} {x j : Nat} (hx : x < L.length) (S : RenSt r h l (L.set x ⟨X, (fs.take j).map r ++ fs.drop j⟩) hk) (hp : X.ptrB = true) (hj : j < fs.length) (R : RenOk h r) :
    hk.isB (2 * posOf (l.take x)) = true ∧ (hk.hd (2 * posOf (l.take x) / 2)).ptrB = true ∧ j < (hk.fields (2 * posOf (l.take x))).length ∧ (hk.fields (2 * posOf (l.take x))).getD j 0 = fs[j] ∧ fs[j] < 4294967296 ∧ r fs[j] < 4294967296 ∧
    hk.putE (2 * posOf (l.take x)) (j : Int) (r fs[j]) = 0 ∧ RenSt r h l (L.set x ⟨X, (fs.take (j + 1)).map r ++ fs.drop (j + 1)⟩) (hk.putH (2 * posOf (l.take x)) (j : Int) (r fs[j])) ∧ (hk.putH (2 * posOf (l.take x)) (j : Int) (r fs[j])).roots = hk.roots := by
  have hx' : x < (L.set x ⟨X, (fs.take j).map r ++ fs.drop j⟩).length := by rw [List.length_set]; exact hx
  have he : (L.set x ⟨X, (fs.take j).map r ++ fs.drop j⟩)[x] = ⟨X, (fs.take j).map r ++ fs.drop j⟩ := List.getElem_set_self (by rw [List.length_set]; exact hx)
  obtain ⟨hl, hg⟩ := take_map_get r fs hj
  have hpx : ((L.set x ⟨X, (fs.take j).map r ++ fs.drop j⟩)[x]).x.ptrB = true := by rw [he]; exact hp
  have hjx : j < ((L.set x ⟨X, (fs.take j).map r ++ fs.drop j⟩)[x]).fs.length := by rw [he]; exact hl
  have hF := S.field hx' hpx hjx
  have hfe : ((L.set x ⟨X, (fs.take j).map r ++ fs.drop j⟩)[x]).fs[j] = fs[j] := by
    simp only [he]
    exact hg
  rw [hfe] at hF
  have R' := R.same S.starts
  obtain ⟨e1, e2, e3⟩ := S.put hx' hpx hjx (R'.lt _ hF.1) (R'.val _ hF.2)
  refine ⟨S.isB hx', by rw [half_pos, S.hd hx']; exact hpx, by rw [S.flds hx']; exact hjx, ?_, hF.1, R'.lt _ hF.1, e1, ?_, e3⟩
  · rw [S.flds hx', List.getD_eq_getElem?_getD, List.getElem?_eq_getElem hjx]
    exact hfe
  · simp only [he, List.set_set, take_map_set r fs hj] at e2
    exact e2
theorem RenSt.root (S : RenSt r h l L hk) {i v : Nat} (hi : i < 64) (h32 : v < 4294967296) (hv : hk.valB v = true) :
    hk.setRootE (i : Int) v = 0 ∧ RenSt r h l L (hk.setRootH (i : Int) v) ∧ (hk.setRootH (i : Int) v).roots = hk.roots.set i v := by
  have hE : hk.setRootE (i : Int) v = 0 := by
    unfold HM.setRootE rootOk
    rw [if_pos (by simp; omega), if_pos hv]
  have hH : hk.setRootH (i : Int) v = { hk with roots := hk.roots.set i v } := by
    unfold HM.setRootH
    rw [if_pos hE, Int.toNat_natCast]
  rw [hH]
  exact ⟨hE, ⟨S.good.setRoot i v h32 hv, S.same_, S.size, S.last, S.starts⟩, rfl⟩
end
end Go.Proofs.YtblekggklimpeaaGreatDoor

namespace Go.Proofs.YtblekggklimpeaaGreatDoor
open Go.RowKit
attribute [local go_sem] Oper.semAt_some
def MapR (w : World) (mb n : Nat) (pl : List (Nat × Nat)) : Prop := MapE 43 43 .u32 w mb n (fun x => (goesM pl x : Nat)) (fun x => decide (x ∈ pl.map (·.1)))
theorem renO_yes {pl : List (Nat × Nat)} {o : Nat} (h : o ∈ pl.map (·.1)) : renO pl o = goesM pl o := by
  unfold renO goesM
  cases hf : pl.find? (fun p => p.1 == o) with
  | some p => rfl
  | none =>
    rw [List.find?_eq_none] at hf
    obtain ⟨q, hq, rfl⟩ := List.mem_map.1 h
    exact absurd (by simp) (hf q hq)
theorem renO_no {pl : List (Nat × Nat)} {o : Nat} (h : o ∉ pl.map (·.1)) : renO pl o = o := by
  unfold renO
  have hf : pl.find? (fun p => p.1 == o) = none := by
    rw [List.find?_eq_none]
    intro q hq he
    exact h (List.mem_map.2 ⟨q, hq, by simpa using he⟩)
  rw [hf]
theorem ren1_any {w : World} {bx mb n : Nat} {pl : List (Nat × Nat)} (hb : Blk w bx 71 #[.map (some mb)]) (M : MapR w mb n pl) {o : Nat} (ho : o < 4294967296) :
    Calls Tryz.prog 60 #[.int .u32 o, .pointer (some ⟨bx, 0, none⟩)] w (fun e w' => e = .returned (.int .u32 (renO pl o : Nat)) ∧ w = w') := by
  have c0 := hb.cell 0
  have hlk := M.look_ok tyOO ho
  by_cases hm : o ∈ pl.map (·.1)
  · have HR := Lib.hid (renO_yes hm)
    rw [decide_eq_true hm] at hlk
    clear M hm
    generalize goesM pl o = y at *
    go_enter Tryz.func60, Tryz.ntmps60
    go_wp2_with fail
    go_ret
    exact ⟨by rw [HR.out]; rfl, rfl⟩
  · have HR := Lib.hid (renO_no hm)
    rw [decide_eq_false hm] at hlk
    clear M hm
    generalize (goesM pl o : Int) = y at *
    go_enter Tryz.func60, Tryz.ntmps60
    go_wp2_with fail
    go_ret
    exact ⟨by rw [HR.out]; rfl, rfl⟩
end Go.Proofs.YtblekggklimpeaaGreatDoor

namespace Go.Proofs.YtblekggklimpeaaGreatDoor
open Go.RowKit
attribute [local go_sem] Oper.semAt_some
theorem HAt.safe {w w' : World} {p : HP} {h : HM} (H : HAt w p h) (hk : ∀ j cs t fr, p.has j → w.heap[j]? = some (.cells cs t fr) → w'.heap[j]? = some (.cells cs t fr)) : HAt w' p h := by
  obtain ⟨h0, ⟨c1, h1, r1⟩, ⟨c2, h2, r2⟩, ⟨c3, h3, r3⟩⟩ := H
  exact ⟨hk _ _ _ _ (.inl rfl) h0, ⟨c1, hk _ _ _ _ (.inr (.inl rfl)) h1, r1⟩, ⟨c2, hk _ _ _ _ (.inr (.inr (.inl rfl))) h2, r2⟩, ⟨c3, hk _ _ _ _ (.inr (.inr (.inr rfl))) h3, r3⟩⟩
theorem Spares.safe {w w' : World} (hs : Spares w) (hk : ∀ cs t fr, w.heap[0]? = some (.cells cs t fr) → w'.heap[0]? = some (.cells cs t fr)) : Spares w' := fun i hi => by
  have hc := hs i hi
  cases ho : w.heap[0]? with
  | none => simp [World.cell?, ho] at hc
  | some ob =>
    cases ob with
    | cells cs t fr => exact (World.cell?_of_block (a := ⟨0, i, none⟩) ((hk cs t fr ho).trans ho.symm)).trans hc
    | _ => simp [World.cell?, ho] at hc
theorem hat_safe {w w' : World} {p : HP} {h : HM} {X : Prop} {Safe : Nat → Prop} (H : HAt w p h) (hs : Spares w) (hk : ∀ j cs t fr, (p.has j ∨ j = 0) → w.heap[j]? = some (.cells cs t fr) → w'.heap[j]? = some (.cells cs t fr) ∧ Safe j) (hx : X) :
    HAt w' p h ∧ Spares w' ∧ X ∧ ∀ j, (p.has j ∨ j = 0) → Safe j := by
  refine ⟨H.safe fun j cs t fr hj hh => (hk j cs t fr (.inl hj) hh).1, hs.safe fun cs t fr hh => (hk _ cs t fr (.inr rfl) hh).1, hx, fun j hj => ?_⟩
  have hcell : ∃ cs t fr, w.heap[j]? = some (.cells cs t fr) := by
    obtain ⟨h0, ⟨c1, h1, r1⟩, ⟨c2, h2, r2⟩, ⟨c3, h3, r3⟩⟩ := H
    rcases hj with (rfl | rfl | rfl | rfl) | rfl
    · exact ⟨_, _, _, h0⟩
    · exact ⟨_, _, _, h1⟩
    · exact ⟨_, _, _, h2⟩
    · exact ⟨_, _, _, h3⟩
    · have hc := hs 0 (by omega)
      cases ho : w.heap[0]? with
      | none => simp [World.cell?, ho] at hc
      | some ob =>
        cases ob with
        | cells cs t fr => exact ⟨_, _, _, rfl⟩
        | _ => simp [World.cell?, ho] at hc
  obtain ⟨cs, t, fr, hh⟩ := hcell
  exact (hk j cs t fr hj hh).2

set_option maxRecDepth 100000 in
set_option maxHeartbeats 4000000 in
/-- All hands out the objects as they lie, whatever the body does that keeps the blocks that are safe. -/
theorem all_stopsG {w : World} {p : HP} {h : HM} {l : List Ob} (H : HAt w p h) (G : h.Good l) (hs : Spares w) (n Bh : Nat) (hbox : w.cell? ⟨Bh, 0, none⟩ = some (ptr p.g)) (Kp : World → World → Prop) (Safe : World → Nat → Prop)
    (hsafe : ∀ A B k cs t fr, Kp A B → Safe A k → A.heap[k]? = some (.cells cs t fr) → B.heap[k]? = some (.cells cs t fr) ∧ Safe B k)
    (hbel : ∀ A B k, Below A.heap.size A B → Safe A k → Safe B k)
    (hnw : ∀ W W1 k, Below w.heap.size w W → Below W.heap.size W W1 → W.heap.size ≤ k → Safe W1 k) (hsp : ∀ W, Below w.heap.size w W → Safe W 0) :
    SeqStopsK Fence.wide n Tryz.prog 70 #[.pointer (some ⟨Bh, 0, none⟩)] (allV l) Kp (fun xs => xs = List.finRange l.length) (fun pre => pre <+: List.finRange l.length) l.length w :=
  fun lp J Jx W hW hJ hJx hY h0 => by
  have hBh := World.block_lt_of_cell? _ _ hbox
  have HW := H.below hW
  have hbW : W.cell? ⟨Bh, 0, none⟩ = some (ptr p.g) := (hW.cell (p := ⟨Bh, 0, none⟩) hBh).trans hbox
  have HC := Lib.hid (Clone_any HW G.fit)
  have HsW := hs.below hW
  refine callsIn_of_wp Tryz.func70 rfl trivial ?_ rfl
  simp only [Tryz.ntmps70, List.size_toArray, List.length_cons, List.length_nil, Nat.reduceAdd, Nat.reduceSub, Array.replicate_succ, Array.replicate_zero, List.push_toArray, List.append_toArray, List.nil_append, List.cons_append]
  unfold ptr at hbW HC
  have HY := Lib.hid hY
  have HJ := Lib.hid (show ∀ s A B, J s A → Below A.heap.size A B → J s B from fun s A B hs hb => hJ s A B none hs ⟨hb.os, hb.tape, hb.output, hb.size, fun k hk _ => hb.block k hk⟩ (fun r e => by cases e))
  have HJ0 := Lib.hid h0
  have HWD := Lib.hid hW
  clear hY hJ hJx h0 hW
  gi_wp2_with fail
  refine ⟨trivial, fun hh => (by cases hh), (callsIn_wide.2 HC.out).mono ?_⟩
  rintro e W1 ⟨pc, rfl, Hc, hnew, hb1⟩
  have HJ1 := HJ.out _ _ _ HJ0.out hb1
  have Hs1 := HsW.below hb1
  have HSF := Lib.hid (show ∀ j, (pc.has j ∨ j = 0) → Safe W1 j from fun j hj => hj.elim (fun h1 => hnw W W1 j HWD.out hb1 (hnew j h1)) (fun h1 => by rw [h1]; exact hbel W W1 _ hb1 (hsp W HWD.out)))
  have HBL := Lib.hid hbel
  have HSA := Lib.hid hsafe
  clear hbel hsafe hnw hsp
  have HF := Lib.hid (first_any Hc G.fit)
  rw [first_oopI G] at HF
  unfold ptr at HF
  clear hbW hnew
  gi_wp2_with fail
  refine ⟨trivial, fun hh => (by cases hh), (callsIn_wide.2 HF.out).mono ?_⟩
  rintro e W2 ⟨rfl, rfl⟩
  have HH := Lib.hid (show HAt W1 pc h ∧ Spares W1 ∧ J ((List.finRange l.length).take 0) W1 ∧ ∀ j, (pc.has j ∨ j = 0) → Safe W1 j from ⟨Hc, Hs1, HJ1, HSF.out⟩)
  clear Hc Hs1 HJ1 hb1
  gi_wp2_with fail
  gi_loopw [4] (fun o wr => ∃ k : Nat, k ≤ l.length ∧ o = .int .u32 ((oopI l k : Nat) : Int) ∧ HAt wr pc h ∧ Spares wr ∧ J ((List.finRange l.length).take k) wr ∧ ∀ j, (pc.has j ∨ j = 0) → Safe wr j) (fun o wr => mesO o)
  case atStart => exact ⟨0, by omega, rfl, HH.out.1, HH.out.2.1, HH.out.2.2⟩
  case round =>
    obtain ⟨k, hk, rfl, Hk, hsk, hjk, hsfk⟩ := hrel
    by_cases hlt : k < l.length
    · have hroom := G.fit.room
      have hhi := G.fit.hi
      have hpl := posOf_take_lt G k hlt
      have hpp := posOf_pos (l.take k)
      have hO := Lib.hid (show oopI l k = 2 * posOf (l.take k) by unfold oopI; rw [if_pos hlt])
      have hN := Lib.hid (next_oopI G k hlt)
      have hB := isB_at G k hlt
      have HX := Lib.hid (hd_at' G k hlt)
      have HAT := Lib.hid (fun w => at_any pc.g (2 * posOf (l.take k)) (by omega) (objB_pos _) w)
      have HHD := Lib.hid (fun w' (H : HAt w' pc h) (hs : Spares w') => header_any H G.fit hs (posOf (l.take k)) (G.laid.heads _ (by unfold HM.isB at hB; simp only [Bool.and_eq_true, half_pos] at hB; exact hB.2)))
      have HNX := Lib.hid (fun w' (H : HAt w' pc h) (hs : Spares w') => next_any H G.fit G.laid.heads hs (2 * posOf (l.take k)) (by omega))
      have HNV := Lib.hid (show h.nextV (2 * posOf (l.take k)) = .tuple #[.int .u32 (oopI l (k + 1) : Nat), .int .i64 0] by unfold HM.nextV; rw [if_pos hB, hN.out])
      have HME := Lib.hid (show oopI l (k + 1) = 0 ∨ 2 * posOf (l.take k) < oopI l (k + 1) by
        unfold oopI
        split
        · have := posOf_take_succ k hlt; right; omega
        · exact .inl rfl)
      have HMX := Lib.hid (show oopI l (k + 1) < 4294967296 by
        unfold oopI
        split
        · rename_i h1; have := posOf_take_lt G (k + 1) h1; omega
        · omega)
      have HTK := Lib.hid (show (List.finRange l.length).take k ++ [⟨k, hlt⟩] = (List.finRange l.length).take (k + 1) by
        rw [List.take_add_one, List.getElem?_eq_getElem (by simpa using hlt)]; simp)
      have HPL := Lib.hid (show ((List.finRange l.length).take k).length < l.length by simp; omega)
      have HAV := Lib.hid (show allV l ⟨k, hlt⟩ = #[.int .u32 ((2 * posOf (l.take k) : Nat) : Int), .agg #[.int .i64 (l[k].x.size : Nat), .int .i64 (l[k].x.fmt : Nat), .int .i64 (l[k].x.spare : Nat), .int .u32 (l[k].x.cls : Nat), .int .u32 (l[k].x.ser : Nat)]] from rfl)
      have HXV := Lib.hid (show (h.hd (posOf (l.take k))).val = .agg #[.int .i64 (l[k].x.size : Nat), .int .i64 (l[k].x.fmt : Nat), .int .i64 (l[k].x.spare : Nat), .int .u32 (l[k].x.cls : Nat), .int .u32 (l[k].x.ser : Nat)] by rw [HX.out]; rfl)
      have HK := Lib.hid (show HAt wr pc h ∧ Spares wr ∧ J ((List.finRange l.length).take k) wr ∧ ∀ j, (pc.has j ∨ j = 0) → Safe wr j from ⟨Hk, hsk, hjk, hsfk⟩)
      have HYk := Lib.hid (fun W1 hj => HY.out ((List.finRange l.length).take k) ⟨k, hlt⟩ W1 hj HPL.out)
      rw [HAV.out] at HYk
      rw [hO.out]
      rw [HXV.out] at HHD
      rw [HNV.out] at HNX
      rw [half_pos] at HAT
      clear Hk hsk hjk hsfk hB hO HX hN HXV HNV HAV HPL HH
      generalize (⟨k, hlt⟩ : Fin l.length) = xk at *
      generalize l[k].x = X at *
      have ho : (((2 * posOf (l.take k) : Nat) : Int) != 0) = true := by simp; omega
      have HO32 := Lib.hid (show 2 * posOf (l.take k) < 4294967296 ∧ 0 < 2 * posOf (l.take k) by omega)
      generalize hq : 2 * posOf (l.take k) = o at *
      clear hq
      generalize posOf (l.take k) = q at *
      unfold ptr at HAT HHD HNX
      gi_wp2_with fail
      refine ⟨trivial, fun hh => (by cases hh), (callsIn_wide.2 (HAT.out _)).mono ?_⟩
      rintro e W3 ⟨rfl, rfl⟩
      gi_wp2_with fail
      refine ⟨trivial, fun hh => (by cases hh), (callsIn_wide.2 (HHD.out _ HK.out.1 HK.out.2.1)).mono ?_⟩
      rintro e W4 ⟨rfl, hb4⟩
      have HK4 := Lib.hid (show HAt W4 pc h ∧ Spares W4 ∧ J ((List.finRange l.length).take k) W4 ∧ ∀ j, (pc.has j ∨ j = 0) → Safe W4 j from ⟨HK.out.1.below hb4, HK.out.2.1.below hb4, HJ.out _ _ _ HK.out.2.2.1 hb4, fun j hj => HBL.out _ _ _ hb4 (HK.out.2.2.2 j hj)⟩)
      clear hb4 HK
      obtain ⟨fn, tmps, assign, body, hy, hR⟩ := HYk.out W4 HK4.out.2.2.1
      gi_wp2_with fail
      refine ⟨fun hh => (by cases hh), hR.mono ?_⟩
      rintro e W5 (⟨rfl, hJ5, hk5⟩ | ⟨rfl, hx5⟩)
      · have HK5 := Lib.hid (show HAt W5 pc h ∧ Spares W5 ∧ J ((List.finRange l.length).take (k + 1)) W5 ∧ ∀ j, (pc.has j ∨ j = 0) → Safe W5 j from
          hat_safe HK4.out.1 HK4.out.2.1 (fun j cs t fr hj hh => HSA.out W4 W5 j cs t fr hk5 (HK4.out.2.2.2 j hj) hh) (by rw [← HTK.out]; exact hJ5))
        clear hJ5 hk5 hy hR HK4
        gi_wp2_with fail
        refine ⟨trivial, fun hh => (by cases hh), (callsIn_wide.2 (HNX.out _ HK5.out.1 HK5.out.2.1)).mono ?_⟩
        rintro e W6 ⟨rfl, hb6⟩
        have HK6 := Lib.hid (show HAt W6 pc h ∧ Spares W6 ∧ J ((List.finRange l.length).take (k + 1)) W6 ∧ ∀ j, (pc.has j ∨ j = 0) → Safe W6 j from ⟨HK5.out.1.below hb6, HK5.out.2.1.below hb6, HJ.out _ _ _ HK5.out.2.2.1 hb6, fun j hj => HBL.out _ _ _ hb6 (HK5.out.2.2.2 j hj)⟩)
        clear hb6 HK5
        generalize hno : oopI l (k + 1) = no at *
        have HNO := Lib.hid hno
        clear hno
        gi_wp2_with fail
        go_roundw
        case rel => exact ⟨k + 1, by omega, by rw [HNO.out], HK6.out.1, HK6.out.2.1, HK6.out.2.2⟩
        case measure => exact mesO_lt HME.out HO32.out.2 HO32.out.1 HMX.out
      · clear hy HK4
        gi_wp2_with fail
        refine bodyPost_ret (results_none rfl _ _ _) rfl ?_
        exact ⟨⟨_, rfl⟩, .inr ⟨_, ⟨(List.finRange l.length).drop (k + 1), by rw [HTK.out, List.take_append_drop]⟩, hx5⟩⟩
    · obtain rfl : k = l.length := by omega
      have hO := Lib.hid (show oopI l l.length = 0 by unfold oopI; rw [if_neg hlt])
      have HFin := Lib.hid (show J (List.finRange l.length) wr by have := hjk; rw [List.take_of_length_le (by simp)] at this; exact this)
      rw [hO.out]
      clear Hk hsk hjk hsfk hlt hk
      gi_wp2_with fail
      go_end0
      exact ⟨⟨_, rfl⟩, .inl ⟨_, rfl, HFin.out⟩⟩
end Go.Proofs.YtblekggklimpeaaGreatDoor
