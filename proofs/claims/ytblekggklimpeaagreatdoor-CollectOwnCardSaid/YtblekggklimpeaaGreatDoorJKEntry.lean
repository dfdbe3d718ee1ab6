/- 'a[i], a[j] = x, y' at a map of the call's own: the entry first, then what goes into it. -/
import Derived.Test.YtblekggklimpeaaGreatDoorJMapOk
import Derived.WideKeyEntry
set_option linter.unusedVariables false
namespace Go.Proofs.YtblekggklimpeaaGreatDoor
open Go.RowKit Go.Maps Go.ChangeMaps
/-- An entry that is not there is made; what is stored goes into it. -/
theorem entry_store {k t e : TypeId} {R : Value → Option (DataW Unit × List MemPlace)} {w : World} {b : Nat} {es : Array MapEntry} {clock : Nat} (K : Keyed Tryz.prog k) (ht : Tryz.prog.underlying t = some (.map k e)) {z : Value}
    (hz : ∀ u : World, (zeroValue e).run Tryz.prog u = .ok z u) (hb : w.heap[b]? = some (.map es clock)) (F : WideElems.Fit Tryz.prog k R es clock) {key val : Value} {kl : Lit} (hkey : keyOf Tryz.prog k key = some kl) :
    ∃ v0 st es1 clock1 es2 clock2, (Instr.mapEntry t (.map (some b)) key).run Tryz.prog w = .ok (.tuple #[v0, .int .i64 (st : Nat)]) (setBlock w b (.map es1 clock1)) ∧
      (Instr.entryStore t (.map (some b)) (.int .i64 (st : Nat)) val).run Tryz.prog (setBlock w b (.map es1 clock1)) = .ok () (setBlock w b (.map es2 clock2)) ∧
      (Instr.mapUpdate t (.map (some b)) key val).run Tryz.prog w = .ok () (setBlock w b (.map es2 clock2)) := by
  obtain ⟨s1, s2, _⟩ := F.stamped
  have hss : ∀ o o' : Obj, setBlock (setBlock w b o) b o' = setBlock w b o' := fun o o' => by unfold setBlock; simp
  rcases K.find w hkey es.toList F.keys with ⟨h1, h2⟩ | ⟨j, e0, h1, h2, h3⟩
  · have hw2 : (setBlock w b (.map (es.push ⟨key, z, clock⟩) (clock + 1))).heap[b]? = some (.map (es.push ⟨key, z, clock⟩) (clock + 1)) := heap_setBlock_same hb _
    have hnd : ((es.push ⟨key, z, clock⟩).toList.map (·.born)).Nodup := by
      rw [Array.toList_push, List.map_append]
      refine List.nodup_append.2 ⟨s2, by simp, fun a ha c hc e1 => ?_⟩
      rw [List.map_cons, List.map_nil, List.mem_singleton] at hc
      obtain ⟨x, hx, rfl⟩ := List.mem_map.1 ha
      have e2 : c = clock := hc
      have e3 : x.born = c := e1
      have := s1 x hx
      omega
    have hidx : (es.push ⟨key, z, clock⟩).findIdx? (fun e => ((e.born : Nat) : Int) == ((clock : Nat) : Int)) = some es.size := by
      rw [WideElems.findIdx_arr]
      exact WideElems.findIdx_born (e0 := ⟨key, z, clock⟩) hnd (by simp)
    have hmod : (es.push ⟨key, z, clock⟩).modify es.size (fun e => { e with val := val }) = es.push ⟨key, val, clock⟩ := by
      apply Array.ext'
      rw [Array.toList_modify, Array.toList_push, Array.toList_push, ← Array.length_toList, WideElems.modify_last]
    refine ⟨z, clock, es.push ⟨key, z, clock⟩, clock + 1, es.push ⟨key, val, clock⟩, clock + 1, ?_, ?_, ?_⟩
    · simp [Instr.mapEntry, run_underlying ht, MapKept.run_getObj_map hb, K.check w false hkey, h1, hz, MapKept.run_setObj_map _ hb, Result.andThen, setBlock, goInt]
    · rw [← hss (.map (es.push ⟨key, z, clock⟩) (clock + 1)) (.map (es.push ⟨key, val, clock⟩) (clock + 1))]
      simp [Instr.entryStore, MapKept.run_getObj_map hw2, asInt, asIntOf, hidx, hmod, MapKept.run_setObj_map _ hw2, Result.andThen]
      rfl
    · simp [Instr.mapUpdate, run_underlying ht, MapKept.run_getObj_map hb, K.check w false hkey, h1, MapKept.run_setObj_map _ hb, Result.andThen, setBlock]
  · have hj : es[j]? = some e0 := by simpa using h2
    have hsame : es.modify j (fun e => { e with key := key }) = es := by
      apply Array.ext'
      rw [Array.toList_modify, modify_eq_set _ _ _ _ h2]
      have : ({ e0 with key := key } : MapEntry) = e0 := by rw [← h3]
      rw [this]
      exact WideElems.set_self _ _ _ h2
    have hw2 : (setBlock w b (.map es clock)).heap[b]? = some (.map es clock) := heap_setBlock_same hb _
    have hidx : es.findIdx? (fun e => ((e.born : Nat) : Int) == ((e0.born : Nat) : Int)) = some j := by
      rw [WideElems.findIdx_arr]
      exact WideElems.findIdx_born s2 h2
    have hmod : es.modify j (fun e => { e with val := val }) = es.modify j (fun e' => { e' with key := key, val := val }) := by
      apply Array.ext'
      rw [Array.toList_modify, Array.toList_modify, modify_eq_set _ _ _ _ h2, modify_eq_set _ _ _ _ h2, ← h3]
    refine ⟨e0.val, e0.born, es, clock, es.modify j (fun e' => { e' with key := key, val := val }), clock, ?_, ?_, ?_⟩
    · simp [Instr.mapEntry, run_underlying ht, MapKept.run_getObj_map hb, K.check w false hkey, h1, hj, h3, K.stays w hkey, hsame, MapKept.run_setObj_map _ hb, Result.andThen, setBlock, goInt]
    · rw [← hss (.map es clock) (.map (es.modify j (fun e' => { e' with key := key, val := val })) clock)]
      simp [Instr.entryStore, MapKept.run_getObj_map hw2, asInt, asIntOf, hidx, hmod, MapKept.run_setObj_map _ hw2, Result.andThen]
      rfl
    · simp [Instr.mapUpdate, run_underlying ht, MapKept.run_getObj_map hb, K.check w false hkey, h1, hj, h3, K.stays w hkey, MapKept.run_setObj_map _ hb, Result.andThen, setBlock]
section
variable {T K E : TypeId} {kd : IntKind} {w : World} {b n : Nat} {f : Nat → Int} {hs : Nat → Bool}
theorem MapE.entry (h : MapE K E kd w b n f hs) (M : MapTyE T K E kd) {x : Nat} {v : Int} (hx : x < 4294967296) (hv : (Lit.int kd v).wf = true) (hn : n < 9223372036854775807) :
    ∃ v0 st W1 w', (Instr.mapEntry T (.map (some b)) (.int .u32 (x : Int))).run Tryz.prog w = .ok (.tuple #[v0, .int .i64 (st : Nat)]) W1 ∧ w.grownBy W1 (some b) ∧ (Instr.entryStore T (.map (some b)) (.int .i64 (st : Nat)) (.int kd v)).run Tryz.prog W1 = .ok () w' ∧
      MapE K E kd w' b (n + 1) (fun y => if y = x then v else f y) (fun y => if y = x then true else hs y) ∧ w.grownBy w' (some b) := by
  obtain ⟨w', hrun, hm, hg⟩ := h.put M hx hv hn
  obtain ⟨D, hD, ⟨es, clock, hb, F, _, _⟩, _⟩ := h
  obtain ⟨v0, st, es1, clock1, es2, clock2, h1, h2, h3⟩ := entry_store (val := .int kd v) (int_keyed M.hk) M.ht M.hz hb F (keyOf_int_mk M.hk (wf_u32 hx))
  rw [hrun] at h3
  injection h3 with _ h3
  rw [← h3] at h2
  exact ⟨v0, st, _, w', h1, ⟨rfl, rfl, rfl, by simp [setBlock], fun i _ hi => heap_setBlock_other hb _ (fun e => hi (by rw [e]))⟩, h2, hm, hg⟩
end
end Go.Proofs.YtblekggklimpeaaGreatDoor
