/- Words cut into objects. Plain data. -/
/- (*Heap).laid: goes through the words. -/
import Derived.Test.YtblekggklimpeaaDoorJMake
import Derived.Test.YtblekggklimpeaaDoorJMay
import Derived.WalkMore
set_option linter.unusedVariables false
set_option linter.unusedSectionVars false
namespace Go.Proofs.YtblekggklimpeaaDoor
open Go.RowKit


/-- Words cut into objects: the only way there is. -/
def parseF : Nat → List Nat → Option (List Ob)
  | 0, _ => none
  | _ + 1, [] => some []
  | f + 1, a :: b :: c :: r => if okhd a b c && decide ((unhd a b c).size ≤ r.length) then (parseF f (r.drop (unhd a b c).size)).map (⟨unhd a b c, r.take (unhd a b c).size⟩ :: ·) else none
  | _ + 1, _ => none
def parseT (ws : List Nat) : Option (List Ob) := parseF (ws.length + 1) ws
def parseW : List Nat → Option (List Ob)
  | 0 :: r => parseT r
  | _ => none
theorem parseF_fuel : ∀ (f g : Nat) (ws : List Nat), ws.length < f → ws.length < g → parseF f ws = parseF g ws
  | 0, _, _, h, _ => absurd h (by omega)
  | _, 0, _, _, h => absurd h (by omega)
  | f + 1, g + 1, [], _, _ => rfl
  | f + 1, g + 1, [_], _, _ => rfl
  | f + 1, g + 1, [_, _], _, _ => rfl
  | f + 1, g + 1, a :: b :: c :: r, h1, h2 => by
    unfold parseF
    split
    · rw [parseF_fuel f g _ (by simp at h1 ⊢; omega) (by simp at h2 ⊢; omega)]
    · rfl
theorem parseT_nil : parseT [] = some [] := rfl
theorem parseT_short {ws : List Nat} (h0 : ws ≠ []) (h3 : ws.length < 3) : parseT ws = none := by
  match ws, h0, h3 with
  | [_], _, _ => rfl
  | [_, _], _, _ => rfl
  | _ :: _ :: _ :: _, _, h => simp at h; omega
theorem parseT_bad {a b c : Nat} {r : List Nat} (h : okhd a b c = false) : parseT (a :: b :: c :: r) = none := by
  unfold parseT
  unfold parseF
  rw [h, Bool.false_and, if_neg (by decide)]
theorem parseT_long {a b c : Nat} {r : List Nat} (h : r.length < (unhd a b c).size) : parseT (a :: b :: c :: r) = none := by
  unfold parseT
  unfold parseF
  rw [decide_eq_false (by omega), Bool.and_false, if_neg (by decide)]
theorem parseT_ok {a b c : Nat} {r : List Nat} (h : okhd a b c = true) (hs : (unhd a b c).size ≤ r.length) :
    parseT (a :: b :: c :: r) = (parseT (r.drop (unhd a b c).size)).map (⟨unhd a b c, r.take (unhd a b c).size⟩ :: ·) := by
  unfold parseT
  conv => lhs; unfold parseF
  rw [h, decide_eq_true hs, Bool.true_and, if_pos rfl, parseF_fuel _ ((r.drop (unhd a b c).size).length + 1) _ (by simp; omega) (by omega)]
theorem Ob.ok_of {a b c : Nat} {r : List Nat} (h : okhd a b c = true) (hs : (unhd a b c).size ≤ r.length) (hb : b < 4294967296) (hc : c < 4294967296) (hr : ∀ x ∈ r, x < 4294967296) :
    Ob.Ok ⟨unhd a b c, r.take (unhd a b c).size⟩ := by
  unfold okhd at h
  rw [Bool.and_eq_true] at h
  exact ⟨⟨Nat.mod_lt _ (by omega), Nat.mod_lt _ (by omega), Nat.mod_lt _ (by omega), hb, hc⟩, h.1, by rw [List.length_take]; show (unhd a b c).size = _; omega, fun f hf => hr f (List.mem_of_mem_take hf)⟩
theorem okhd_w0 {a b c : Nat} (h : okhd a b c = true) : (unhd a b c).w0 = a := by
  unfold okhd at h
  simp only [Bool.and_eq_true, decide_eq_true_eq] at h
  have h2 := h.2
  unfold Hd.w0 unhd
  show a % 16777216 + a / 16777216 % 8 * 16777216 + a / 134217728 % 4 * 134217728 = a
  omega
theorem ws_of_parse {a b c : Nat} {r : List Nat} (h : okhd a b c = true) : (Ob.ws ⟨unhd a b c, r.take (unhd a b c).size⟩) ++ r.drop (unhd a b c).size = a :: b :: c :: r := by
  unfold Ob.ws
  show (unhd a b c).w0 :: b :: c :: r.take _ ++ r.drop _ = _
  rw [okhd_w0 h]
  simp
theorem okhd_ob {b : Ob} (k : b.Ok) : okhd b.x.w0 b.x.cls b.x.ser = true := by
  unfold okhd
  rw [unhd_ob k, k.may]
  exact (Bool.true_and _).trans (decide_eq_true (w0_lt k.fit))
theorem parseT_ob {b : Ob} (k : b.Ok) (r : List Nat) : parseT (b.ws ++ r) = (parseT r).map (b :: ·) := by
  unfold Ob.ws
  rw [List.cons_append, List.cons_append, List.cons_append, parseT_ok (okhd_ob k) (by rw [unhd_ob k, k.size]; simp), unhd_ob k, k.size, List.drop_left, List.take_left]
theorem parseT_obs {l : List Ob} (k : ∀ b ∈ l, b.Ok) (r : List Nat) : parseT (wsOf l ++ r) = (parseT r).map (l ++ ·) := by
  induction l with
  | nil => cases h : parseT r <;> simp [wsOf_nil, h]
  | cons b l ih =>
    rw [wsOf_cons, List.append_assoc, parseT_ob (k b (by simp)), ih (fun b hb => k b (List.mem_cons_of_mem _ hb)), Option.map_map]
    rfl
theorem parseW_obs {l : List Ob} (k : ∀ b ∈ l, b.Ok) : parseW (0 :: wsOf l) = some l := by
  have := parseT_obs k []
  rw [List.append_nil, parseT_nil] at this
  show parseT (wsOf l) = _
  rw [this]
  simp
theorem parseF_inv : ∀ (f : Nat) (ws : List Nat) (l : List Ob), (∀ x ∈ ws, x < 4294967296) → parseF f ws = some l → ws = wsOf l ∧ ∀ b ∈ l, b.Ok
  | 0, _, _, _, h => by cases h
  | f + 1, [], l, _, h => by cases h; exact ⟨rfl, fun _ hb => by cases hb⟩
  | f + 1, [_], l, _, h => by cases h
  | f + 1, [_, _], l, _, h => by cases h
  | f + 1, a :: b :: c :: r, l, h32, h => by
    unfold parseF at h
    split at h
    · rename_i hc
      rw [Bool.and_eq_true, decide_eq_true_eq] at hc
      rw [Option.map_eq_some_iff] at h
      obtain ⟨l', h1, rfl⟩ := h
      obtain ⟨e, k⟩ := parseF_inv f _ l' (fun x hx => h32 x (by have := List.mem_of_mem_drop hx; simp [this])) h1
      refine ⟨?_, ?_⟩
      · rw [wsOf_cons, ← e]
        exact (ws_of_parse hc.1).symm
      · intro o ho
        rcases List.mem_cons.1 ho with rfl | ho
        · exact Ob.ok_of hc.1 hc.2 (h32 b (by simp)) (h32 c (by simp)) (fun x hx => h32 x (by simp [hx]))
        · exact k o ho
    · cases h
theorem parseW_inv {ws : List Nat} {l : List Ob} (h32 : ∀ x ∈ ws, x < 4294967296) (h : parseW ws = some l) : ws = 0 :: wsOf l ∧ ∀ b ∈ l, b.Ok := by
  unfold parseW at h
  split at h
  · rename_i r
    obtain ⟨e, k⟩ := parseF_inv _ _ _ (fun x hx => h32 x (List.mem_cons_of_mem _ hx)) h
    exact ⟨by rw [← e], k⟩
  · cases h

/-- The heap that words, roots and a last serial are. -/
def HM.ofWords (size : Nat) (words roots : List Nat) (last : Nat) : HM := ⟨size, words, false :: msOf ((parseW words).getD []), roots, last⟩
/-- Whether they are one. -/
def LoadOk (size : Nat) (words roots : List Nat) (last : Nat) : Prop := ∃ l, parseW words = some l ∧ (HM.ofWords size words roots last).Sound l
theorem HM.ofWords_good {size : Nat} {words roots : List Nat} {last : Nat} {l : List Ob} (h1 : 64 ≤ size) (h2 : size ≤ 1048576) (hw : ∀ x ∈ words, x < 4294967296) (hr : ∀ x ∈ roots, x < 4294967296) (hrl : roots.length = 64)
    (hl : last < 4294967296) (hs : words.length ≤ size) (hp : parseW words = some l) (S : (HM.ofWords size words roots last).Sound l) : (HM.ofWords size words roots last).Good l := by
  obtain ⟨e, k⟩ := parseW_inv hw hp
  have e2 : (HM.ofWords size words roots last).starts = false :: msOf l := by show false :: msOf ((parseW words).getD []) = _; rw [hp]; rfl
  refine ⟨⟨h1, h2, ?_, hs, ?_, hrl, hw, hr, hl⟩, ⟨e, e2, k⟩, S⟩
  · show 1 ≤ words.length
    rw [e]; simp
  · rw [e2]
    show _ = words.length
    rw [e]; simp [msOf_len]
/-- A heap that is one is what its words are. -/
theorem HM.Good.ofWords {h : HM} {l : List Ob} (G : h.Good l) : HM.ofWords h.size h.words h.roots h.last = h ∧ parseW h.words = some l := by
  have hp : parseW h.words = some l := by rw [G.laid.words]; exact parseW_obs G.laid.ok
  refine ⟨?_, hp⟩
  unfold HM.ofWords
  rw [hp]
  show HM.mk h.size h.words (false :: msOf l) h.roots h.last = h
  rw [← G.laid.marks]
theorem HM.Good.loadOk {h : HM} {l : List Ob} (G : h.Good l) : LoadOk h.size h.words h.roots h.last := by
  obtain ⟨e, hp⟩ := G.ofWords
  exact ⟨l, hp, by rw [e]; exact G.sound⟩

/-- Going through words: the objects l are behind, the words r are ahead. -/
structure Pre (ws : List Nat) (l : List Ob) (r : List Nat) : Prop where
  eq : ws = 0 :: (wsOf l ++ r)
  ok : ∀ b ∈ l, b.Ok
theorem Pre.parse {ws r : List Nat} {l : List Ob} (p : Pre ws l r) : parseW ws = (parseT r).map (l ++ ·) := by rw [p.eq]; exact parseT_obs p.ok r
theorem Pre.len {ws r : List Nat} {l : List Ob} (p : Pre ws l r) : ws.length = posOf l + r.length := by rw [p.eq]; simp [posOf]; omega
theorem Pre.get {ws r : List Nat} {l : List Ob} (p : Pre ws l r) (j : Nat) : ws.getD (posOf l + j) 0 = r.getD j 0 := by
  rw [p.eq]
  unfold posOf
  rw [Nat.add_assoc, Nat.add_comm 1, List.getD_cons_succ, getD_app_right]
theorem Pre.next {ws r : List Nat} {l : List Ob} {a b c : Nat} (p : Pre ws l (a :: b :: c :: r)) (h32 : ∀ x ∈ ws, x < 4294967296) (h : okhd a b c = true) (hs : (unhd a b c).size ≤ r.length) :
    Pre ws (l ++ [⟨unhd a b c, r.take (unhd a b c).size⟩]) (r.drop (unhd a b c).size) := by
  have hm : ∀ x ∈ a :: b :: c :: r, x < 4294967296 := fun x hx => h32 x (by rw [p.eq]; simp at hx ⊢; right; right; exact hx)
  refine ⟨?_, fun o ho => ?_⟩
  · rw [p.eq, wsOf_app, wsOf_cons, wsOf_nil, List.append_nil, List.append_assoc, ws_of_parse h]
  · rcases List.mem_append.1 ho with ho | ho
    · exact p.ok o ho
    · simp only [List.mem_cons, List.not_mem_nil, or_false] at ho
      subst ho
      exact Ob.ok_of h hs (hm b (by simp)) (hm c (by simp)) (fun x hx => hm x (by simp [hx]))
theorem Pre.start {r : List Nat} : Pre (0 :: r) [] r := ⟨by simp [wsOf_nil], fun _ h => by cases h⟩
end Go.Proofs.YtblekggklimpeaaDoor

namespace Go.Proofs.YtblekggklimpeaaDoor
open Go.RowKit

/-- What laid answers, and leaves. -/
def LaidP (p : HP) (h : HM) (w : World) (e : Ending) (w' : World) : Prop :=
  ∃ b : Bool, e = .returned (.bool b) ∧ Step p p w w' ∧ (b = false → parseW h.words = none) ∧ (b = true → ∃ l, parseW h.words = some l ∧ HAt w' p { h with starts := false :: msOf l })
def LaidMid (p : HP) (h : HM) (w : World) (k : Nat) (wr : World) : Prop :=
  Step p p w wr ∧ ((∃ l r, Pre h.words l r ∧ k = posOf l ∧ HAt wr p { h with starts := (false :: msOf l) ++ List.replicate r.length false }) ∨
    (h.words.length < k ∧ parseW h.words = none ∧ ∃ st, st.length = h.starts.length ∧ HAt wr p { h with starts := st }))
theorem Pre.none {ws r : List Nat} {l : List Ob} (p : Pre ws l r) (h : parseT r = none) : parseW ws = none := by rw [p.parse, h]; rfl
theorem Pre.done {ws : List Nat} {l : List Ob} (p : Pre ws l []) : parseW ws = some l := by rw [p.parse, parseT_nil]; simp
theorem marks_set (l : List Ob) (o : Ob) (n m : Nat) (hn : n = 3 + o.fs.length + m) :
    ((false :: msOf l) ++ List.replicate n false).set (posOf l) true = (false :: msOf (l ++ [o])) ++ List.replicate m false := by
  subst hn
  have hp : posOf l = (false :: msOf l).length := by simp [posOf, msOf_len]; omega
  rw [hp, List.set_append_right _ _ (Nat.le_refl _), Nat.sub_self, show 3 + o.fs.length + m = (2 + o.fs.length + m) + 1 by omega, List.replicate_succ, List.set_cons_zero, msOf_app, msOf_cons]
  have e : List.replicate (2 + o.fs.length + m) false = List.replicate (2 + o.fs.length) false ++ List.replicate m false := by rw [List.replicate_append_replicate]
  rw [e]
  simp [Ob.ms, msOf]

set_option maxRecDepth 100000 in
set_option maxHeartbeats 2000000 in
theorem laid_any {w : World} {p : HP} {h : HM} (H : HAt w p h) (f : h.Fit) (hs : Spares w) (hfar : Far p) (hst : h.starts = List.replicate h.words.length false) :
    Calls Tryd.prog 77 #[ptr p.g] w (LaidP p h w) := by
  have c0 := H.c0
  have q0 : w.cell? ⟨p.gw, 0, none⟩ = some (.int .u32 (h.words.getD 0 0 : Nat)) := H.word f.one
  have hone := f.one
  have hcap : h.words.length ≤ p.cw := by have := H.2.1; obtain ⟨_, _, h1, _⟩ := this; simpa [u32s] using h1
  have hcm : p.cw ≤ 9223372036854775807 := by have := H.2.1; obtain ⟨_, _, _, h1, _⟩ := this; unfold maxLen at h1; exact h1
  have hhi := f.hi
  have hroom := f.room
  have HF := Lib.hid f
  have HS := Lib.hid hs
  have HFAR := Lib.hid hfar
  have har : ∀ (a : Addr) (c : Nat) (w : World), (Instr.arrayAt 143 (.slice (some a) 3 c)).run Tryd.prog w = .ok (.pointer (some a)) w := fun a c w => by
    have ht : Tryd.prog.underlying 143 = some (.array 3 24) := Tryd.underlying143
    simp [Instr.arrayAt, run_underlying ht]
  unfold ptr
  by_cases h0 : h.words.getD 0 0 = 0
  · obtain ⟨r0, hr0⟩ : ∃ r0, h.words = 0 :: r0 := by
      cases hw : h.words with
      | nil => rw [hw] at hone; simp at hone
      | cons a r => rw [hw] at h0; simp at h0; exact ⟨r, by rw [h0]⟩
    rw [h0] at q0
    have HM0 := Lib.hid (show LaidMid p h w 1 w from ⟨Step.refl _ _, .inl ⟨[], r0, by rw [hr0]; exact Pre.start, rfl, by
      have e : (false :: msOf []) ++ List.replicate r0.length false = h.starts := by rw [hst, hr0]; simp [msOf, List.replicate_succ]
      rw [e]; exact H⟩⟩)
    have HH := Lib.hid H
    have HST := Lib.hid hst
    clear H f hs hfar hst hr0 h0
    go_enter Tryd.func77, Tryd.ntmps77
    go_wp2_with fail
    go_step3
    go_wp2_with fail
    go_step3
    go_wp2_with fail
    go_loopw [3, 4, 5] (fun i _ _ wr => ∃ k : Nat, i = .int .i64 k ∧ k ≤ 20000000 ∧ LaidMid p h w k wr) (fun i _ _ _ => h.words.length - (intOf i).toNat)
    case atStart => exact ⟨1, rfl, by omega, HM0.out⟩
    case round =>
      clear q0 c0
      obtain ⟨k, rfl, hk20, hst1, hmid⟩ := hrel
      rcases hmid with ⟨l, r, hp, rfl, Hr⟩ | ⟨hlong, hnone, st, hsl, Hr⟩
      · have c0 := Hr.c0
        have hlen := hp.len
        have h32 := HF.out.w32
        by_cases hr0 : r = []
        · subst hr0
          have HD := Lib.hid hp.done
          have HX := Lib.hid (show HAt wr p { h with starts := false :: msOf l } by
            have e : (false :: msOf l) ++ List.replicate ([] : List Nat).length false = false :: msOf l := by simp
            rw [e] at Hr; exact Hr)
          simp only [List.length_nil, Nat.add_zero] at hlen
          rw [← hlen] at *
          have hdec : decide (h.words.length < h.words.length) = false := by simp
          have hdec2 : ((h.words.length : Int) == (h.words.length : Int)) = true := by simp
          clear hp Hr h32
          go_wp2_with fail
          go_ret
          exact ⟨true, rfl, hst1, (fun e => by cases e), fun _ => ⟨l, HD.out, HX.out⟩⟩
        · by_cases hr3 : r.length < 3
          · have HN := Lib.hid (hp.none (parseT_short hr0 hr3))
            have hpos : 0 < r.length := List.length_pos_iff.2 hr0
            clear hp hr0 h32
            generalize posOf l = k at *
            generalize r.length = m at *
            have hdec : decide (k < h.words.length) = true := by simp; omega
            have hdec1 : ((h.words.length : Nat) : Int) < (k : Int) + 3 := by omega
            have hdec2 : ((k : Int) == (h.words.length : Int)) = false := by simp; omega
            clear Hr hlen
            go_wp2_with fail
            go_ret
            exact ⟨false, rfl, hst1, fun _ => HN.out, fun e => by cases e⟩
          · obtain ⟨a, b, c, r', rfl⟩ : ∃ a b c r', r = a :: b :: c :: r' := by
              match r, hr3 with
              | a :: b :: c :: r', _ => exact ⟨a, b, c, r', rfl⟩
              | [], h => simp at h
              | [_], h => simp at h
              | [_, _], h => simp at h
            have hm : ∀ x ∈ a :: b :: c :: r', x < 4294967296 := fun x hx => h32 x (by rw [hp.eq]; simp at hx ⊢; right; right; exact hx)
            have ba := hm a (by simp)
            have bb := hm b (by simp)
            have bc := hm c (by simp)
            have g0 := hp.get 0
            have g1 := hp.get 1
            have g2 := hp.get 2
            simp only [Nat.add_zero, List.getD_cons_zero, List.getD_cons_succ] at g0 g1 g2
            have q0 := Hr.word (i := posOf l) (by show posOf l < h.words.length; simp at hlen; omega)
            have q1 := Hr.word (i := posOf l + 1) (by show posOf l + 1 < h.words.length; simp at hlen; omega)
            have q2 := Hr.word (i := posOf l + 2) (by show posOf l + 2 < h.words.length; simp at hlen; omega)
            replace q0 : wr.cell? ⟨p.gw, posOf l, none⟩ = some (.int .u32 (a : Int)) := by rw [← g0]; exact q0
            replace q1 : wr.cell? ⟨p.gw, posOf l + 1, none⟩ = some (.int .u32 (b : Int)) := by rw [← g1]; exact q1
            replace q2 : wr.cell? ⟨p.gw, posOf l + 2, none⟩ = some (.int .u32 (c : Int)) := by rw [← g2]; exact q2
            clear g0 g1 g2 hr0 hr3
            have hgg : p.g < wr.heap.size := Hr.lt (.inl rfl)
            have hgw : p.gw < wr.heap.size := Hr.lt (.inr (.inl rfl))
            have hgs : p.gs < wr.heap.size := Hr.lt (.inr (.inr (.inl rfl)))
            have n1 : wr.heap.size ≠ p.gw := by omega
            have HSP := Lib.hid (hst1.spares HFAR.out HS.out)
            have hdec : decide (posOf l < h.words.length) = true := by simp at hlen ⊢; omega
            have hdec1 : (posOf l : Int) + 3 ≤ ((h.words.length : Nat) : Int) := by simp at hlen; omega
            cases hok : okhd a b c
            · have HN := Lib.hid (hp.none (parseT_bad hok))
              have HOK := Lib.hid hok
              clear hok hp hm h32
              generalize posOf l = k at *
              clear hlen
              go_wp2_with fail
              refine (unpack_bad a b c ba bb bc _ HSP.out HOK.out).mono ?_
              rintro e w1 ⟨rfl, hb1⟩
              have c1 := (Hr.below hb1).c0
              have hsz := hb1.size
              have hgg1 : p.g < w1.heap.size := by omega
              have s1 := (hst1.below' hb1).alloc (.cells #[.int .i64 0, .int .i64 0, .int .i64 0, .int .u32 0, .int .u32 0] 56)
              have hdec2 : ((k : Int) == (h.words.length : Int)) = false := by simp at hdec ⊢; omega
              clear q0 q1 q2 c0 Hr
              go_wp2_with fail
              go_ret
              exact ⟨false, rfl, s1, fun _ => HN.out, fun e => by cases e⟩
            · have hfit := unhd_fit a b c bb bc
              have HOK := Lib.hid hok
              have HSL := Lib.hid (show (false :: msOf l ++ List.replicate (a :: b :: c :: r').length false).length = h.words.length by
                rw [List.length_append, List.length_cons, msOf_len, List.length_replicate, hlen]; unfold posOf; omega)
              by_cases hsz : (unhd a b c).size ≤ r'.length
              · have HP2 := Lib.hid (hp.next h32 hok hsz)
                have HPOS := Lib.hid (posOf_snoc l ⟨unhd a b c, r'.take (unhd a b c).size⟩)
                have HMS := Lib.hid (marks_set l ⟨unhd a b c, r'.take (unhd a b c).size⟩ (a :: b :: c :: r').length (r'.drop (unhd a b c).size).length (by simp; omega))
                have HTL := Lib.hid (show (r'.take (unhd a b c).size).length = (unhd a b c).size by simp; omega)
                have HLEN := Lib.hid (show h.words.length = posOf l + (r'.length + 3) by simpa using hlen)
                clear hlen hm h32 hp
                generalize posOf l = k at *
                have HU := Lib.hid (unpack_any a b c ba bb bc wr HSP.out HOK.out)
                have hxv : (unhd a b c).val = .agg #[.int .i64 (unhd a b c).size, .int .i64 (unhd a b c).fmt, .int .i64 (unhd a b c).spare, .int .u32 (unhd a b c).cls, .int .u32 (unhd a b c).ser] := rfl
                rw [hxv] at HU
                clear hxv hok
                generalize unhd a b c = x at *
                obtain ⟨f1, f2, f3, f4, f5⟩ := hfit
                have hkl : k < h.words.length := by simpa using hdec
                go_wp2_with fail
                refine HU.out.mono ?_
                rintro e w1 ⟨rfl, hb1⟩
                have hb2 := hb1.alloc hb1.size (.cells #[.int .i64 x.size, .int .i64 x.fmt, .int .i64 x.spare, .int .u32 x.cls, .int .u32 x.ser] 56)
                have BH := Blk.new w1 56 #[.int .i64 x.size, .int .i64 x.fmt, .int .i64 x.spare, .int .u32 x.cls, .int .u32 x.ser]
                have Hr2 := Hr.below hb2
                have c1 := Hr2.c1
                have sl : (false :: msOf l ++ List.replicate (a :: b :: c :: r').length false).length = h.words.length := HSL.out
                simp only [sl] at c1
                have m1 := Hr2.mark (i := k) (by show k < (false :: msOf l ++ List.replicate (a :: b :: c :: r').length false).length; rw [sl]; exact hkl)
                have z1 := Hr2.2.2.1.frozen k
                have HS2 := Lib.hid (Hr2.setMark k true)
                have ST2 := Lib.hid ((hst1.below' hb2).setCell (a := ⟨p.gs, k, none⟩) (.inl (.inr (.inr (.inl rfl)))) (.bool true))
                have hne : p.gs ≠ w1.heap.size := by have := hb1.size; omega
                obtain ⟨d0, -, -, -, -⟩ := (BH.far (p := ⟨p.gs, k, none⟩) (fun e => hne e.symm) (.bool true)).cells5
                clear q0 q1 q2 c0 sl hb1 BH
                dsimp only at m1
                generalize (false :: msOf l ++ List.replicate (a :: b :: c :: r').length false).getD k false = mb at m1
                have hk4 : (k : Int) < ((h.words.length : Nat) : Int) := by omega
                go_wp2_with fail
                go_roundw
                case rel =>
                  have hl := HLEN.out
                  refine ⟨k + (3 + x.size), by go_num, by omega, ST2.out, .inl ⟨l ++ [⟨x, r'.take x.size⟩], r'.drop x.size, HP2.out, by rw [HPOS.out, HTL.out]; omega, ?_⟩⟩
                  have e := HS2.out
                  rw [HMS.out] at e
                  exact e
                case measure => simp [intOf]; omega
              · have HN := Lib.hid (hp.none (parseT_long (by omega)))
                have HLEN := Lib.hid (show h.words.length = posOf l + (r'.length + 3) by simpa using hlen)
                clear hlen hm h32 hp
                generalize posOf l = k at *
                have HU := Lib.hid (unpack_any a b c ba bb bc wr HSP.out HOK.out)
                have hxv : (unhd a b c).val = .agg #[.int .i64 (unhd a b c).size, .int .i64 (unhd a b c).fmt, .int .i64 (unhd a b c).spare, .int .u32 (unhd a b c).cls, .int .u32 (unhd a b c).ser] := rfl
                rw [hxv] at HU
                clear hxv hok
                generalize unhd a b c = x at *
                obtain ⟨f1, f2, f3, f4, f5⟩ := hfit
                have hkl : k < h.words.length := by simpa using hdec
                go_wp2_with fail
                refine HU.out.mono ?_
                rintro e w1 ⟨rfl, hb1⟩
                have hb2 := hb1.alloc hb1.size (.cells #[.int .i64 x.size, .int .i64 x.fmt, .int .i64 x.spare, .int .u32 x.cls, .int .u32 x.ser] 56)
                have BH := Blk.new w1 56 #[.int .i64 x.size, .int .i64 x.fmt, .int .i64 x.spare, .int .u32 x.cls, .int .u32 x.ser]
                have Hr2 := Hr.below hb2
                have c1 := Hr2.c1
                have sl : (false :: msOf l ++ List.replicate (a :: b :: c :: r').length false).length = h.words.length := HSL.out
                simp only [sl] at c1
                have m1 := Hr2.mark (i := k) (by show k < (false :: msOf l ++ List.replicate (a :: b :: c :: r').length false).length; rw [sl]; exact hkl)
                have z1 := Hr2.2.2.1.frozen k
                have HS2 := Lib.hid (Hr2.setMark k true)
                have ST2 := Lib.hid ((hst1.below' hb2).setCell (a := ⟨p.gs, k, none⟩) (.inl (.inr (.inr (.inl rfl)))) (.bool true))
                have hne : p.gs ≠ w1.heap.size := by have := hb1.size; omega
                obtain ⟨d0, -, -, -, -⟩ := (BH.far (p := ⟨p.gs, k, none⟩) (fun e => hne e.symm) (.bool true)).cells5
                clear q0 q1 q2 c0 sl hb1 BH
                dsimp only at m1
                generalize (false :: msOf l ++ List.replicate (a :: b :: c :: r').length false).getD k false = mb at m1
                have hk4 : (k : Int) < ((h.words.length : Nat) : Int) := by omega
                go_wp2_with fail
                go_roundw
                case rel =>
                  have hl := HLEN.out
                  refine ⟨k + (3 + x.size), by go_num, by omega, ST2.out, .inr ⟨by omega, HN.out, _, ?_, HS2.out⟩⟩
                  rw [List.length_set, HSL.out, HF.out.marks]
                case measure => simp [intOf]; omega
      · have c0 := Hr.c0
        have hdec : decide (k < h.words.length) = false := by simp; omega
        have hdec2 : ((k : Int) == (h.words.length : Int)) = false := by simp; omega
        have HN := Lib.hid hnone
        clear hnone
        go_wp2_with fail
        go_ret
        exact ⟨false, rfl, hst1, fun _ => HN.out, fun e => by cases e⟩
  · have hb : ((h.words.getD 0 0 : Int) != 0) = true := by rw [bne_iff_ne]; omega
    have HN := Lib.hid (show parseW h.words = none by
      unfold parseW
      split
      · rename_i hw; rw [hw] at h0; simp at h0
      · rfl)
    generalize h.words.getD 0 0 = x at *
    clear h0
    go_enter Tryd.func77, Tryd.ntmps77
    go_wp2_with fail
    go_step3
    go_wp2_with fail
    rw [Exit.noGoto_ret]
    go_ret
    exact ⟨false, rfl, Step.refl _ _, fun _ => HN.out, fun e => by cases e⟩
end Go.Proofs.YtblekggklimpeaaDoor
