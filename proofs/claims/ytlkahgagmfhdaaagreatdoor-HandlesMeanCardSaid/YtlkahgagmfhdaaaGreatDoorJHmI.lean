/- A script's own book of its handles: what it tells of the table, deed by deed. Plain data. -/
/- HandlesUnroot: plain data. -/
/- HandlesUnroot, walked. -/
import Derived.Test.YtlkahgagmfhdaaaGreatDoorJHmP
import Derived.Test.YtlkahgagmfhdaaaGreatDoorJHdO
import Derived.Test.YtlkahgagmfhdaaaGreatDoorJHdW
import Derived.Test.YtlkahgagmfhdaaaGreatDoorJKCol
import Derived.Test.YtlkahgagmfhdaaaGreatDoorJAll
import Derived.Test.YtlkahgagmfhdaaaGreatDoorJKRCol
set_option linter.unusedVariables false
set_option linter.unusedSimpArgs false
set_option linter.unusedSectionVars false
namespace Go.Proofs.YtlkahgagmfhdaaaGreatDoor
open Go.RowKit
section
variable {t : TM} {h h' : HM} {l l' : List Ob}
theorem wsOf_sum : ∀ L : List Ob, (wsOf L).length = (L.map fun b => 3 + b.fs.length).sum
  | [] => rfl
  | b :: L => by rw [wsOf_cons, List.length_append, Ob.ws_len, List.map_cons, List.sum_cons, wsOf_sum L]
/-- Headers stay where fields alone are written. -/
theorem hd_same (G : h.Good l) (G' : h'.Good l') (e1 : l'.map (·.x) = l.map (·.x)) (e2 : (l'.map fun b => 3 + b.fs.length) = l.map fun b => 3 + b.fs.length) {x : Nat} (hb : h.isB x = true) : h'.hd (x / 2) = h.hd (x / 2) := by
  obtain ⟨a, b, c, rfl, rfl⟩ := (G.laid.isB_iff x).1 hb
  have hlen : l'.length = (a ++ b :: c).length := by have := congrArg List.length e1; simpa using this
  have hj : a.length < l'.length := by rw [hlen]; simp
  have ep : posOf (l'.take a.length) = posOf a := by
    unfold posOf
    rw [wsOf_sum, wsOf_sum, List.map_take, e2, ← List.map_take]
    simp
  have ex : (l'[a.length]).x = b.x := by
    have h1 : (l'.map (·.x))[a.length]? = some (l'[a.length]).x := by simp [hj]
    rw [e1] at h1
    simpa using h1.symm
  rw [half_pos, G.laid.hd_at, ← ep]
  have L' := G'.laid
  rw [split_at l' a.length hj] at L'
  rw [L'.hd_at, ex]
theorem putH_hds (G : h.Good l) (o : Nat) (i : Int) (v : Nat) (hv : v < 4294967296) {x : Nat} (hb : h.isB x = true) : (h.putH o i v).hd (x / 2) = h.hd (x / 2) := by
  unfold HM.putH
  by_cases he : h.putE o i v = 0
  · rw [if_pos he]
    unfold HM.putE at he
    split at he
    · rename_i hk
      split at he
      · rename_i hval
        obtain ⟨hi, hc, h0, hlt⟩ := HM.look_ok hk
        obtain ⟨a, b, c, rfl, rfl⟩ := (G.laid.isB_iff o).1 hi
        rw [half_pos, G.laid.hd_at] at hc hlt
        have h2 : b.x.fmt ≠ 2 := fun e => by rw [e] at hc; simp at hc
        have hlen : b.x.len = b.fs.length := by unfold Hd.len; rw [if_neg h2]; exact G.laid.ok_at.size
        exact hd_same G (G.setF i.toNat v (by omega) hv (fun _ => hval) (fun e => absurd e h2)) (mid_map _ _ _ _ _ rfl) (mid_map _ _ _ _ _ (by simp)) hb
      · omega
    · omega
  · rw [if_neg he]
theorem obj_clr (hb : h.isB h.arr = true) (hf : (h.hd (h.arr / 2)).fmt = 1) {j k : Nat} (hj : j < (h.hd (h.arr / 2)).size) (hne : j ≠ k) : (h.clrK k).objK j = h.objK j := by
  have e1 : (h.clrK k).arr = h.arr := clrK_arr h k
  unfold HM.objK HM.readN
  rw [e1]
  unfold HM.clrK
  rw [putH_lookE]
  split
  · unfold HM.putH
    split
    · unfold fw
      rw [setF_w _ _ _ _ _ (by rw [Int.toNat_natCast, Int.toNat_natCast]; omega)]
    · rfl
  · rfl
theorem obj_iss (hb : h.isB h.arr = true) (hf : (h.hd (h.arr / 2)).fmt = 1) {k o : Nat} (hk : k < (h.hd (h.arr / 2)).size) (ho : h.isB o = true) (hh : h.Heads) {j : Nat} (hj : j < (h.hd (h.arr / 2)).size) :
    (h.putH h.arr k o).objK j = if j = k then o else h.objK j := by
  rw [put_ok hb hf hk ho]
  have eA : (h.setF h.arr k o).arr = h.arr := rfl
  have eB : ∀ x, (h.setF h.arr k o).isB x = h.isB x := fun x => rfl
  have eD : (h.setF h.arr k o).hd (h.arr / 2) = h.hd (h.arr / 2) := setF_hd ..
  rw [obj_look (h := h.setF h.arr k o) (by rw [eA, eB]; exact hb) (by rw [eA, eD]; exact hf) (by rw [eA, eD]; exact hj), eA]
  have hlen := (HM.isB_hd hh hb).1
  by_cases h1 : j = k
  · subst h1
    rw [if_pos rfl]
    unfold fw HM.w HM.setF
    simp only
    rw [List.getD_eq_getElem?_getD, List.getElem?_set, if_pos rfl, if_pos (by omega)]
    rfl
  · rw [if_neg h1, obj_look hb hf hj]
    unfold fw
    exact setF_w _ _ _ _ _ (by omega)
def serK (h : HM) (o : Nat) : Nat := (h.hd (o / 2)).ser
abbrev BkM := Nat → Option (Nat × Nat × Bool)
def updM (m : BkM) (id : Nat) (x : Nat × Nat × Bool) : BkM := fun i => if i = id then some x else m i
theorem updM_same (m : BkM) (id : Nat) (x : Nat × Nat × Bool) : updM m id x id = some x := if_pos rfl
theorem updM_other (m : BkM) {id i : Nat} (x : Nat × Nat × Bool) (h : i ≠ id) : updM m id x i = m i := if_neg h
/-- The book and the table agree. -/
structure MInv (h : HM) (t : TM) (m : BkM) (last : Nat) : Prop where
  good : ∃ l, h.Good l
  ok : t.Ok
  brk : brkB h t = false
  ids : ∀ id x, m id = some x → id ≤ last
  nx : t.next ≠ 0 → last < t.next
  slot : ∀ k, usedB (t.at k) = true → m (t.at k).1 = some (serK h (h.objK k), (t.at k).2, true)
  live : ∀ id s e, m id = some (s, e, true) → ∃ k, usedB (t.at k) = true ∧ (t.at k).1 = id
variable {m : BkM} {last : Nat}
theorem MInv.heads (I : MInv h t m last) : h.Heads := by obtain ⟨l, G⟩ := I.good; exact G.laid.heads
theorem MInv.issue (I : MInv h t m last) {o : Nat} (h32 : o < 4294967296) {n : Int} (he : issE h t o n = 0) :
    last < t.next ∧ m t.next = none ∧ 1 ≤ n ∧ h.isB o = true ∧ serK (issH h t o n) o = serK h o ∧ MInv (issH h t o n) (issT h t o n) (updM m t.next (serK h o, t.now + n.toNat, true)) t.next := by
  obtain ⟨hb, ho, hle, hfr, hnx⟩ := iss_parts he
  obtain ⟨⟨a1, a2, a3⟩, a4⟩ := brk_parts.1 hb
  obtain ⟨l, G⟩ := I.good
  have O := I.ok
  have hhi := O.hi
  have hlt := I.nx hnx
  have hf0 := TM.free_lt O hfr
  have hmn : m t.next = none := by
    cases hm : m t.next with
    | none => rfl
    | some x => have := I.ids _ _ hm; omega
  have hn1 : 1 ≤ n ∧ n ≤ 1000000 := by
    unfold leaseB at hle
    simpa using hle
  have eH : issH h t o n = h.putH h.arr t.free o := by unfold issH; rw [if_pos he]
  have eT : issT h t o n = t.issue t.free n.toNat := by unfold issT; rw [if_pos he]
  have hser : ∀ x, h.isB x = true → serK (issH h t o n) x = serK h x := fun x hx => by
    unfold serK
    rw [eH, putH_hds G _ _ _ h32 hx]
  obtain ⟨l', G', -⟩ := G.putH h.arr t.free o h32
  have hat := fun j => issue_at O (k := t.free) (n := n.toNat) (by omega) j
  have hob : ∀ j, j < t.cap → (issH h t o n).objK j = if j = t.free then o else h.objK j := fun j hj => by
    rw [eH]
    exact obj_iss a1 a2 (by omega) ho I.heads (by omega)
  have hrise := O.rise hnx
  refine ⟨hlt, hmn, hn1.1, ho, hser o ho, ⟨l', by rw [eH]; exact G'⟩, by rw [eT]; exact O.issue hfr hf0 hnx (by omega) (by omega), brk_issue O I.heads G.fit.marks he, fun id x hx => ?_, fun hn => ?_, fun k hu => ?_, fun id s e hm => ?_⟩
  · by_cases h1 : id = t.next
    · omega
    · rw [updM_other m _ h1] at hx
      have := I.ids _ _ hx
      omega
  · rw [eT] at hn ⊢
    have hn : (if t.next = 18446744073709551615 then 0 else t.next + 1) ≠ 0 := hn
    show t.next < (if t.next = 18446744073709551615 then 0 else t.next + 1)
    split at hn
    · exact absurd rfl hn
    · rename_i h2
      rw [if_neg h2]
      omega
  · have hkc := used_lt (by rw [eT]; exact O.issue hfr hf0 hnx (by omega) (by omega)) hu
    have hcap : (issT h t o n).cap = t.cap := iss_cap o n
    rw [hcap] at hkc
    rw [hob k hkc]
    rw [eT, hat] at hu ⊢
    by_cases h1 : k = t.free
    · rw [if_pos h1, if_pos h1, updM_same, hser o ho]
    · rw [if_neg h1] at hu ⊢
      rw [if_neg h1]
      have := hrise k
      rw [updM_other m _ (by omega), hser _ (a4 k (by omega) hu)]
      exact I.slot k hu
  · by_cases h1 : id = t.next
    · refine ⟨t.free, ?_, ?_⟩
      · rw [eT, hat, if_pos rfl]
        exact (usedB_iff _).2 (by intro hh; exact hnx (by injection hh))
      · rw [eT, hat, if_pos rfl, h1]
    · rw [updM_other m _ h1] at hm
      obtain ⟨k, hu, hk⟩ := I.live id s e hm
      have hne : k ≠ t.free := fun e => by rw [e, hf0] at hu; exact absurd hu (by decide)
      refine ⟨k, ?_, ?_⟩
      · rw [eT, hat, if_neg hne]; exact hu
      · rw [eT, hat, if_neg hne]; exact hk
/-- What find tells. -/
theorem MInv.found (I : MInv h t m last) {id : Nat} (he : fndE h t id = 0) : id ≠ 0 ∧ t.find id < 256 ∧ usedB (t.at (t.find id)) = true ∧ (t.at (t.find id)).1 = id ∧ m id = some (serK h (h.objK (t.find id)), (t.at (t.find id)).2, true) := by
  have h1 : ¬ (id = 0 ∨ ¬ t.find id < 256) := fun hh => by
    unfold fndE at he
    rw [I.brk, if_neg (by decide), if_pos hh] at he
    omega
  have h2 := TM.find_lt I.ok (id := id) (fun e => h1 (.inl e)) (by omega)
  have hu := (usedB_iff _).2 h2.2
  refine ⟨fun e => h1 (.inl e), by omega, hu, h2.1, ?_⟩
  have := I.slot _ hu
  rw [h2.1] at this
  exact this
theorem MInv.renew (I : MInv h t m last) {id : Nat} {n : Int} (he : rnwE h t id n = 0) : ∃ s e, m id = some (s, e, true) ∧ MInv h (rnwT h t id n) (updM m id (s, t.now + n.toNat, true)) last := by
  have hf : fndE h t id = 0 := by
    unfold rnwE at he
    split at he
    · rename_i h1; exact h1
    · exact he
  have hl : leaseB n = true := by
    unfold rnwE at he
    rw [if_pos hf] at he
    split at he
    · rename_i h1; exact h1
    · omega
  have hn1 : 1 ≤ n ∧ n ≤ 1000000 := by
    unfold leaseB at hl
    simpa using hl
  obtain ⟨h0, hk, hu, hid, hm⟩ := I.found hf
  have O := I.ok
  have eT : rnwT h t id n = t.renew (t.find id) n.toNat := by unfold rnwT; rw [if_pos he]
  have hne := (usedB_iff _).1 hu
  have hat : ∀ j, (t.renew (t.find id) n.toNat).at j = if j = t.find id then ((t.at (t.find id)).1, t.now + n.toNat) else t.at j := fun j => at_set _ _ _ (by rw [O.len]; exact hk) j
  have hub : ∀ j, usedB ((t.renew (t.find id) n.toNat).at j) = usedB (t.at j) := fun j => by
    rw [hat]
    split
    · rename_i h1
      rw [h1, hu]
      exact (usedB_iff _).2 (by intro hh; have := (O.used _ hne).1; injection hh with h2 h3; omega)
    · rfl
  have hi1 : ∀ j, ((t.renew (t.find id) n.toNat).at j).1 = (t.at j).1 := fun j => by
    rw [hat]
    split
    · rename_i h1; rw [h1]
    · rfl
  refine ⟨_, _, hm, I.good, by rw [eT]; exact O.renew hne (by omega) (by omega), ?_, fun i x hx => ?_, fun hn => ?_, fun k hu2 => ?_, fun i s e hx => ?_⟩
  · rw [eT]
    obtain ⟨b1, b2⟩ := brk_parts.1 I.brk
    exact brk_parts.2 ⟨b1, fun k hk2 hu2 => b2 k hk2 (by rw [hub] at hu2; exact hu2)⟩
  · by_cases h1 : i = id
    · rw [h1]; exact I.ids _ _ hm
    · rw [updM_other m _ h1] at hx
      exact I.ids _ _ hx
  · rw [eT] at hn ⊢
    exact I.nx hn
  · rw [eT] at hu2 ⊢
    rw [hub] at hu2
    rw [hi1]
    by_cases h1 : k = t.find id
    · rw [h1, hid, updM_same, hat, if_pos rfl]
    · have hx : (t.at k).1 ≠ id := fun e => h1 (O.uniq k (t.find id) ((usedB_iff _).1 hu2) hne (by rw [e, hid]))
      rw [updM_other m _ hx, hat, if_neg h1]
      exact I.slot k hu2
  · rw [eT]
    by_cases h1 : i = id
    · exact ⟨t.find id, by rw [hub]; exact hu, by rw [hi1, hid, h1]⟩
    · rw [updM_other m _ h1] at hx
      obtain ⟨k, hu2, hk2⟩ := I.live i s e hx
      exact ⟨k, by rw [hub]; exact hu2, by rw [hi1]; exact hk2⟩
theorem MInv.clear (I : MInv h t m last) {k : Nat} (hu : usedB (t.at k) = true) : MInv (h.clrK k) (t.clear k) (updM m (t.at k).1 (serK h (h.objK k), (t.at k).2, false)) last := by
  obtain ⟨⟨a1, a2, a3⟩, a4⟩ := brk_parts.1 I.brk
  obtain ⟨l, G⟩ := I.good
  have O := I.ok
  have hhi := O.hi
  have hkc := used_lt O hu
  have hk : k < 256 := by omega
  have hm := I.slot k hu
  have hat := fun j => TM.clear_at O.len hk j
  have hne := (usedB_iff _).1 hu
  have husd : ∀ j, usedB ((t.clear k).at j) = true → j ≠ k ∧ usedB (t.at j) = true := fun j hj => by
    rw [hat] at hj
    split at hj
    · exact absurd hj (by decide)
    · rename_i h1; exact ⟨h1, hj⟩
  have hob : ∀ j, j < t.cap → j ≠ k → (h.clrK k).objK j = h.objK j := fun j hj hx => obj_clr a1 a2 (by omega) hx
  have hser : ∀ x, h.isB x = true → serK (h.clrK k) x = serK h x := fun x hx => by
    unfold serK HM.clrK
    rw [putH_hds G _ _ _ (G.fit.root 0) hx]
  have hB : ∀ x, (h.clrK k).isB x = h.isB x := fun x => putH_isB ..
  refine ⟨G.clrK k, O.clear hk, ?_, fun i x hx => ?_, fun hn => I.nx hn, fun j hj => ?_, fun i s e hx => ?_⟩
  · refine brk_parts.2 ⟨⟨by rw [clrK_arr, hB]; exact a1, ?_, ?_⟩, fun j hj hj2 => ?_⟩
    · rw [clrK_arr]; unfold HM.clrK; rw [putH_hd]; exact a2
    · rw [clrK_arr]; unfold HM.clrK; rw [putH_hd]; exact a3
    · obtain ⟨h1, h2⟩ := husd j hj2
      rw [hob j (used_lt O h2) h1, hB]
      exact a4 j hj h2
  · by_cases h1 : i = (t.at k).1
    · rw [h1]; exact I.ids _ _ hm
    · rw [updM_other m _ h1] at hx
      exact I.ids _ _ hx
  · obtain ⟨h1, h2⟩ := husd j hj
    have hjc := used_lt O h2
    rw [hat, if_neg h1, hob j hjc h1, hser _ (a4 j (by omega) h2), updM_other m _ (fun e => h1 (O.uniq j k ((usedB_iff _).1 h2) hne e))]
    exact I.slot j h2
  · by_cases h1 : i = (t.at k).1
    · rw [h1, updM_same] at hx
      injection hx with hx
      injection hx with _ hx
      injection hx with _ hx
      cases hx
    · rw [updM_other m _ h1] at hx
      obtain ⟨j, h2, h3⟩ := I.live i s e hx
      have hjk : j ≠ k := fun e => h1 (by rw [← h3, e])
      exact ⟨j, by rw [hat, if_neg hjk]; exact h2, by rw [hat, if_neg hjk]; exact h3⟩
theorem MInv.release (I : MInv h t m last) {id : Nat} (he : fndE h t id = 0) : ∃ s e, m id = some (s, e, true) ∧ MInv (relH h t id) (relT h t id) (updM m id (s, e, false)) last := by
  obtain ⟨h0, hk, hu, hid, hm⟩ := I.found he
  have hc := I.clear hu
  rw [hid] at hc
  refine ⟨_, _, hm, ?_⟩
  unfold relH relT
  rw [if_pos he, if_pos he]
  exact hc
theorem MInv.pass (I : MInv h t m last) {n : Nat} (hn : t.now + n ≤ 1099511627776) : MInv h (t.pass n) m last := ⟨I.good, I.ok.pass hn, I.brk, I.ids, I.nx, I.slot, I.live⟩
theorem MInv.col (I : MInv h t m last) (G : h.Good l) : MInv (colH h l) t m last := by
  obtain ⟨h1, h2⟩ := col_tab G I.ok I.brk
  exact ⟨⟨_, col_good G⟩, I.ok, h1, I.ids, I.nx, fun k hu => by rw [I.slot k hu]; unfold serK; rw [(h2 k hu).2], I.live⟩
/-- A Tick: the gone ones by their numbers. -/
def gonL (t : TM) : List Nat := t.liveK.filter t.goneB
theorem gonL_mem {k : Nat} : k ∈ gonL t ↔ k < 256 ∧ usedB (t.at k) = true ∧ (t.at k).2 ≤ t.now := by
  unfold gonL TM.goneB
  rw [List.mem_filter, mem_liveK, Bool.and_eq_true, decide_eq_true_eq, usedB_iff]
  exact ⟨fun hh => ⟨hh.1.1, hh.2.1, hh.2.2⟩, fun hh => ⟨⟨hh.1, hh.2.1⟩, hh.2⟩⟩
theorem gonL_nodup (t : TM) : (gonL t).Nodup := (liveK_nodup t).sublist List.filter_sublist
theorem MInv.tick (O : t.Ok) {j k : Nat} (hk : (gonL t)[j]? = some k) (I : MInv (h.clrs ((gonL t).take j)) (t.clears ((gonL t).take j)) m last) :
    ∃ s e, m (t.at k).1 = some (s, e, true) ∧ e ≤ t.now ∧ MInv (h.clrs ((gonL t).take (j + 1))) (t.clears ((gonL t).take (j + 1))) (updM m (t.at k).1 (s, e, false)) last := by
  obtain ⟨h1, h2, h3⟩ := gonL_mem.1 (List.mem_of_getElem? hk)
  have hnot : k ∉ (gonL t).take j := by
    intro hh
    obtain ⟨i, hi, e⟩ := List.mem_iff_getElem.1 hh
    rw [List.length_take] at hi
    rw [List.getElem_take] at e
    obtain ⟨hj, e2⟩ := List.getElem?_eq_some_iff.1 hk
    exact (List.pairwise_iff_getElem.1 (gonL_nodup t)) i j (by omega) hj (by omega) (e.trans e2.symm)
  have hlt : ∀ x ∈ (gonL t).take j, x < 256 := fun x hx => (gonL_mem.1 (List.mem_of_mem_take hx)).1
  have eat : (t.clears ((gonL t).take j)).at k = t.at k := by rw [TM.clears_at _ _ O.len hlt, if_neg hnot]
  have hu : usedB ((t.clears ((gonL t).take j)).at k) = true := by rw [eat]; exact h2
  have hs := I.slot k hu
  have hc := I.clear hu
  rw [eat] at hs hc
  refine ⟨_, _, hs, h3, ?_⟩
  rw [List.take_add_one, hk]
  show MInv (h.clrs ((gonL t).take j ++ [k])) (t.clears ((gonL t).take j ++ [k])) _ last
  rw [clrs_snoc, TM.clears_snoc]
  exact hc
theorem tik_gon {n : Nat} (he : tikE h t n = 0) : tikH h t n = h.clrs (gonL (t.pass n)) ∧ tikT h t n = (t.pass n).clears (gonL (t.pass n)) ∧ tikL h t n = (t.pass n).ids (gonL (t.pass n)) := by
  unfold tikH tikT tikL
  rw [if_pos he, if_pos he, if_pos he, Int.toNat_natCast, sortN_ids]
  exact ⟨(clrs_perm _ (goneL_perm _)).symm, (TM.clears_perm _ (goneL_perm _)).symm, rfl⟩
/-- Behind a Tick nothing that is live has expired. -/
theorem MInv.ticked (O : t.Ok) (I : MInv (h.clrs (gonL t)) (t.clears (gonL t)) m last) {id s e : Nat} (hm : m id = some (s, e, true)) : t.now < e := by
  obtain ⟨k, hu, hid⟩ := I.live id s e hm
  have hlt : ∀ x ∈ gonL t, x < 256 := fun x hx => (gonL_mem.1 hx).1
  have hs := I.slot k hu
  rw [hid, hm] at hs
  have hk : k < 256 := by
    have := used_lt I.ok hu
    have := I.ok.hi
    omega
  rw [TM.clears_at _ _ O.len hlt] at hu hs
  split at hu
  · exact absurd hu (by decide)
  · rename_i h1
    rw [if_neg h1] at hs
    injection hs with hs
    injection hs with _ hs
    injection hs with hs _
    have : ¬ (t.at k).2 ≤ t.now := fun hh => h1 (gonL_mem.2 ⟨hk, hu, hh⟩)
    omega
/-- What Get and Header tell of each handle in the book. -/
theorem MInv.told (I : MInv h t m last) {id s e : Nat} {b : Bool} (hm : m id = some (s, e, b)) :
    (b = false → fndE h t id = 160) ∧ (b = true → fndE h t id = 0 ∧ h.isB (gotV h t id) = true ∧ serK h (gotV h t id) = s) := by
  constructor
  · intro hb
    subst hb
    unfold fndE
    rw [I.brk, if_neg (by decide)]
    by_cases h1 : id = 0 ∨ ¬ t.find id < 256
    · rw [if_pos h1]
    · have h2 := TM.find_lt I.ok (id := id) (fun e => h1 (.inl e)) (by omega)
      have hs := I.slot _ ((usedB_iff _).2 h2.2)
      rw [h2.1, hm] at hs
      injection hs with hs
      injection hs with _ hs
      injection hs with _ hs
      cases hs
  · intro hb
    subst hb
    obtain ⟨k, hu, hid⟩ := I.live id s e hm
    have hne := (usedB_iff _).1 hu
    have hf := TM.find_eq I.ok hne
    have h0 := (I.ok.used k hne).1
    have hkc := used_lt I.ok hu
    have hhi := I.ok.hi
    rw [hid] at hf h0
    have he : fndE h t id = 0 := by
      unfold fndE
      rw [I.brk, if_neg (by decide), hf, if_neg (by omega)]
    have hg : gotV h t id = h.objK k := by
      unfold gotV
      rw [if_pos he, hf]
    have hs := I.slot k hu
    rw [hid, hm] at hs
    injection hs with hs
    injection hs with hs _
    exact ⟨he, by rw [hg]; exact (brk_parts.1 I.brk).2 k (by omega) hu, by rw [hg]; exact hs.symm⟩
/-- New. -/
def HM.putR (h : HM) (o : Nat) : HM := ⟨h.size, h.words, h.starts, h.roots.set 40 o, h.last⟩
theorem MInv.fresh (G : h.Good l) {n first : Nat} (hf : first < 18446744073709551616) (he : nwE h n first = 0) : MInv (nwH h n) (TM.fresh n first) (fun _ => none) 0 := by
  unfold nwE at he
  split at he
  · omega
  rename_i h1
  split at he
  · omega
  have O := TM.Ok.fresh (cap := n) (first := first) (by omega) (by omega) hf
  have hat : ∀ k, (TM.fresh n first).at k = (0, 0) := fun k => by
    unfold TM.at TM.fresh
    simp only [List.getD_eq_getElem?_getD, List.getElem?_replicate]
    split <;> rfl
  have hr := G.fit.root 20
  have hN : nwH h n = (h.AllocH (h.roots.getD 20 0) 1 n).setRootH 40 (h.AllocO (h.roots.getD 20 0) 1 n) := rfl
  generalize h.roots.getD 20 0 = c at *
  have hok : allocOk 1 (n : Int) = true := by unfold allocOk; simp; omega
  have he2 : h.allocE (mkHd c 1 n) = 0 := by
    unfold HM.AllocE at he
    rw [if_pos hok] at he
    exact he
  obtain ⟨hx, hm⟩ := mkHd_ok (c := c) (f := 1) (n := n) hr hok
  have G2 := G.allocH _ hx hm rfl he2
  have hv := alloc_valB G.fit he
  have eH : h.AllocH c 1 n = h.allocH (mkHd c 1 n) := by unfold HM.AllocH; rw [if_pos hok]
  have hwl := G.laid.words
  have hroom := G.fit.room
  have hhi := G.fit.hi
  have eO : h.AllocO c 1 n = 2 * posOf l := by
    unfold HM.AllocO
    rw [if_pos he, hwl, List.length_cons]
    unfold posOf
    omega
  have hp32 : 2 * posOf l < 4294967296 := by
    rw [hwl, List.length_cons] at hroom
    unfold posOf
    omega
  rw [eH, eO] at hv
  have eN : nwH h n = (h.allocH (mkHd c 1 n)).putR (2 * posOf l) := by
    rw [hN, eH, eO]
    unfold HM.setRootH HM.setRootE
    rw [hv]
    rfl
  have hfm : (mkHd c 1 (n : Int)).fmt = 1 ∧ (mkHd c 1 (n : Int)).size = n := ⟨rfl, rfl⟩
  have hrl := G2.fit.roots
  generalize h.allocH (mkHd c 1 n) = b2 at *
  generalize mkHd c 1 (n : Int) = X at *
  have G3 : (b2.putR (2 * posOf l)).Good _ := G2.setRoot 40 (2 * posOf l) hp32 hv
  have hA : (b2.putR (2 * posOf l)).arr = 2 * posOf l := by
    show (b2.roots.set 40 (2 * posOf l)).getD 40 0 = _
    rw [List.getD_eq_getElem?_getD, List.getElem?_set, if_pos rfl, if_pos (by omega)]
    rfl
  rw [eN]
  refine MInv.mk (Exists.intro _ G3) O (brk_parts.2 ⟨⟨?_, ?_, ?_⟩, fun k _ hu => ?_⟩) (fun id x hx => by cases hx) (fun hn => ?_) (fun k hu => ?_) (fun id s e hx => by cases hx)
  · rw [hA]
    exact (G3.laid.isB_iff _).2 ⟨l, _, [], rfl, rfl⟩
  · rw [hA, half_pos, G3.laid.hd_at]
    exact hfm.1
  · rw [hA, half_pos, G3.laid.hd_at]
    show n ≤ X.size
    omega
  · rw [hat k] at hu
    exact absurd hu (by decide)
  · show 0 < first
    omega
  · rw [hat k] at hu
    exact absurd hu (by decide)
end
end Go.Proofs.YtlkahgagmfhdaaaGreatDoor

namespace Go.Proofs.YtlkahgagmfhdaaaGreatDoor
open Go.RowKit
end Go.Proofs.YtlkahgagmfhdaaaGreatDoor

namespace Go.Proofs.YtlkahgagmfhdaaaGreatDoor
open Go.RowKit
attribute [local go_sem] Oper.semAt_some

theorem Live.list {W w : World} {p : HP} {g : Nat} {h : HM} {l : List Ob} (L : Live W w p g h) (hp : parseW h.words = some l) : h.Good l := by
  obtain ⟨l', G⟩ := L.good
  have h1 := parseW_obs G.laid.ok
  rw [← G.laid.words, hp] at h1
  rw [Option.some.inj h1]
  exact G
theorem Live.find {W w : World} {p : HP} {g : Nat} {h : HM} {l : List Ob} (L : Live W w p g h) (G : h.Good l) (s : Nat) (hs : s < 4294967296) : Calls Tryz.prog 25 #[.pointer (some ⟨g, 0, none⟩), .int .u32 (s : Nat)] w (Told (.int .u32 (findN l s : Nat)) w) := by
  have hh := find_any L.at_ G L.envw.spares s hs
  rw [ptr, L.hg] at hh
  exact hh
theorem HT.collect {W w : World} {p : HP} {g gt : Nat} {h : HM} {t : TM} {l : List Ob} (T : HT W w p g gt h t) (G : h.Good l) : Calls Tryz.prog 28 #[.pointer (some ⟨g, 0, none⟩)] w fun e w' => ∃ p', e = .returned (colV h l) ∧ HT W w' p' g gt (colH h l) t ∧ Step p p' w w' :=
  (T.live.collect G).mono fun e w' ⟨p', h1, L', s⟩ => ⟨p', h1, ⟨L', T.tab.same (s.block gt T.tab.lt T.apart), T.ok, T.new⟩, s⟩
end Go.Proofs.YtlkahgagmfhdaaaGreatDoor
