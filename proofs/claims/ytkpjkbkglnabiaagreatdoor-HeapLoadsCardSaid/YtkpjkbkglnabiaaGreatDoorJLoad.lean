/- Words cut into objects. Plain data. -/
/- slices.Clone and slices.Equal of any slices of words and oops (marks): by what they read as. -/
/- (*Heap).laid: goes through the words. -/
/- (*Heap).Load: takes words, roots and the last serial, or refuses them. -/
/- Load and Same of a heap that is new. -/
import Derived.Test.YtkpjkbkglnabiaaGreatDoorJLaid
import Derived.Test.YtkpjkbkglnabiaaGreatDoorClone
import Derived.Test.YtkpjkbkglnabiaaGreatDoorUnpack
import Derived.Test.YtkpjkbkglnabiaaGreatDoorJSnd
import Derived.Test.YtkpjkbkglnabiaaGreatDoorPackB
import Derived.Test.YtkpjkbkglnabiaaGreatDoorLive
import Derived.Test.YtkpjkbkglnabiaaGreatDoorSame
import Derived.WalkMore
import Derived.Deep.RegionLaw
set_option linter.unusedSectionVars false
set_option linter.unusedVariables false
namespace Go.Proofs.YtkpjkbkglnabiaaGreatDoor
open Go.RowKit


/-- Words cut into objects: the only way there is. -/
def parseF : Nat → List Nat → Option (List Ob)
  | 0, _ => none
  | _ + 1, [] => some []
  | f + 1, a :: b :: c :: r => if okhd a b c && decide ((unhd a b c).size ≤ r.length) then (parseF f (r.drop (unhd a b c).size)).map (⟨unhd a b c, r.take (unhd a b c).size⟩ :: ·) else none
  | _ + 1, _ => none
def parseT (ws : List Nat) : Option (List Ob) := parseF (ws.length + 1) ws
def parseW : List Nat → Option (List Ob)
  | 0 :: r => parseT r
  | _ => none
theorem parseF_fuel : ∀ (f g : Nat) (ws : List Nat), ws.length < f → ws.length < g → parseF f ws = parseF g ws
  | 0, _, _, h, _ => absurd h (by omega)
  | _, 0, _, _, h => absurd h (by omega)
  | f + 1, g + 1, [], _, _ => rfl
  | f + 1, g + 1, [_], _, _ => rfl
  | f + 1, g + 1, [_, _], _, _ => rfl
  | f + 1, g + 1, a :: b :: c :: r, h1, h2 => by
    unfold parseF
    split
    · rw [parseF_fuel f g _ (by simp at h1 ⊢; omega) (by simp at h2 ⊢; omega)]
    · rfl
theorem parseT_nil : parseT [] = some [] := rfl
theorem parseT_short {ws : List Nat} (h0 : ws ≠ []) (h3 : ws.length < 3) : parseT ws = none := by
  match ws, h0, h3 with
  | [_], _, _ => rfl
  | [_, _], _, _ => rfl
  | _ :: _ :: _ :: _, _, h => simp at h; omega
theorem parseT_bad {a b c : Nat} {r : List Nat} (h : okhd a b c = false) : parseT (a :: b :: c :: r) = none := by
  unfold parseT
  unfold parseF
  rw [h, Bool.false_and, if_neg (by decide)]
theorem parseT_long {a b c : Nat} {r : List Nat} (h : r.length < (unhd a b c).size) : parseT (a :: b :: c :: r) = none := by
  unfold parseT
  unfold parseF
  rw [decide_eq_false (by omega), Bool.and_false, if_neg (by decide)]
theorem parseT_ok {a b c : Nat} {r : List Nat} (h : okhd a b c = true) (hs : (unhd a b c).size ≤ r.length) :
    parseT (a :: b :: c :: r) = (parseT (r.drop (unhd a b c).size)).map (⟨unhd a b c, r.take (unhd a b c).size⟩ :: ·) := by
  unfold parseT
  conv => lhs; unfold parseF
  rw [h, decide_eq_true hs, Bool.true_and, if_pos rfl, parseF_fuel _ ((r.drop (unhd a b c).size).length + 1) _ (by simp; omega) (by omega)]
theorem Ob.ok_of {a b c : Nat} {r : List Nat} (h : okhd a b c = true) (hs : (unhd a b c).size ≤ r.length) (hb : b < 4294967296) (hc : c < 4294967296) (hr : ∀ x ∈ r, x < 4294967296) :
    Ob.Ok ⟨unhd a b c, r.take (unhd a b c).size⟩ := by
  unfold okhd at h
  rw [Bool.and_eq_true] at h
  exact ⟨⟨Nat.mod_lt _ (by omega), Nat.mod_lt _ (by omega), Nat.mod_lt _ (by omega), hb, hc⟩, h.1, by rw [List.length_take]; show (unhd a b c).size = _; omega, fun f hf => hr f (List.mem_of_mem_take hf)⟩
theorem okhd_w0 {a b c : Nat} (h : okhd a b c = true) : (unhd a b c).w0 = a := by
  unfold okhd at h
  simp only [Bool.and_eq_true, decide_eq_true_eq] at h
  have h2 := h.2
  unfold Hd.w0 unhd
  show a % 16777216 + a / 16777216 % 8 * 16777216 + a / 134217728 % 4 * 134217728 = a
  omega
theorem ws_of_parse {a b c : Nat} {r : List Nat} (h : okhd a b c = true) : (Ob.ws ⟨unhd a b c, r.take (unhd a b c).size⟩) ++ r.drop (unhd a b c).size = a :: b :: c :: r := by
  unfold Ob.ws
  show (unhd a b c).w0 :: b :: c :: r.take _ ++ r.drop _ = _
  rw [okhd_w0 h]
  simp
theorem okhd_ob {b : Ob} (k : b.Ok) : okhd b.x.w0 b.x.cls b.x.ser = true := by
  unfold okhd
  rw [unhd_ob k, k.may]
  exact (Bool.true_and _).trans (decide_eq_true (w0_lt k.fit))
theorem parseT_ob {b : Ob} (k : b.Ok) (r : List Nat) : parseT (b.ws ++ r) = (parseT r).map (b :: ·) := by
  unfold Ob.ws
  rw [List.cons_append, List.cons_append, List.cons_append, parseT_ok (okhd_ob k) (by rw [unhd_ob k, k.size]; simp), unhd_ob k, k.size, List.drop_left, List.take_left]
theorem parseT_obs {l : List Ob} (k : ∀ b ∈ l, b.Ok) (r : List Nat) : parseT (wsOf l ++ r) = (parseT r).map (l ++ ·) := by
  induction l with
  | nil => cases h : parseT r <;> simp [wsOf_nil, h]
  | cons b l ih =>
    rw [wsOf_cons, List.append_assoc, parseT_ob (k b (by simp)), ih (fun b hb => k b (List.mem_cons_of_mem _ hb)), Option.map_map]
    rfl
theorem parseW_obs {l : List Ob} (k : ∀ b ∈ l, b.Ok) : parseW (0 :: wsOf l) = some l := by
  have := parseT_obs k []
  rw [List.append_nil, parseT_nil] at this
  show parseT (wsOf l) = _
  rw [this]
  simp
theorem parseF_inv : ∀ (f : Nat) (ws : List Nat) (l : List Ob), (∀ x ∈ ws, x < 4294967296) → parseF f ws = some l → ws = wsOf l ∧ ∀ b ∈ l, b.Ok
  | 0, _, _, _, h => by cases h
  | f + 1, [], l, _, h => by cases h; exact ⟨rfl, fun _ hb => by cases hb⟩
  | f + 1, [_], l, _, h => by cases h
  | f + 1, [_, _], l, _, h => by cases h
  | f + 1, a :: b :: c :: r, l, h32, h => by
    unfold parseF at h
    split at h
    · rename_i hc
      rw [Bool.and_eq_true, decide_eq_true_eq] at hc
      rw [Option.map_eq_some_iff] at h
      obtain ⟨l', h1, rfl⟩ := h
      obtain ⟨e, k⟩ := parseF_inv f _ l' (fun x hx => h32 x (by have := List.mem_of_mem_drop hx; simp [this])) h1
      refine ⟨?_, ?_⟩
      · rw [wsOf_cons, ← e]
        exact (ws_of_parse hc.1).symm
      · intro o ho
        rcases List.mem_cons.1 ho with rfl | ho
        · exact Ob.ok_of hc.1 hc.2 (h32 b (by simp)) (h32 c (by simp)) (fun x hx => h32 x (by simp [hx]))
        · exact k o ho
    · cases h
theorem parseW_inv {ws : List Nat} {l : List Ob} (h32 : ∀ x ∈ ws, x < 4294967296) (h : parseW ws = some l) : ws = 0 :: wsOf l ∧ ∀ b ∈ l, b.Ok := by
  unfold parseW at h
  split at h
  · rename_i r
    obtain ⟨e, k⟩ := parseF_inv _ _ _ (fun x hx => h32 x (List.mem_cons_of_mem _ hx)) h
    exact ⟨by rw [← e], k⟩
  · cases h

/-- The heap that words, roots and a last serial are. -/
def HM.ofWords (size : Nat) (words roots : List Nat) (last : Nat) : HM := ⟨size, words, false :: msOf ((parseW words).getD []), roots, last⟩
/-- Whether they are one. -/
def LoadOk (size : Nat) (words roots : List Nat) (last : Nat) : Prop := ∃ l, parseW words = some l ∧ (HM.ofWords size words roots last).Sound l
theorem HM.ofWords_good {size : Nat} {words roots : List Nat} {last : Nat} {l : List Ob} (h1 : 64 ≤ size) (h2 : size ≤ 1048576) (hw : ∀ x ∈ words, x < 4294967296) (hr : ∀ x ∈ roots, x < 4294967296) (hrl : roots.length = 64)
    (hl : last < 4294967296) (hs : words.length ≤ size) (hp : parseW words = some l) (S : (HM.ofWords size words roots last).Sound l) : (HM.ofWords size words roots last).Good l := by
  obtain ⟨e, k⟩ := parseW_inv hw hp
  have e2 : (HM.ofWords size words roots last).starts = false :: msOf l := by show false :: msOf ((parseW words).getD []) = _; rw [hp]; rfl
  refine ⟨⟨h1, h2, ?_, hs, ?_, hrl, hw, hr, hl⟩, ⟨e, e2, k⟩, S⟩
  · show 1 ≤ words.length
    rw [e]; simp
  · rw [e2]
    show _ = words.length
    rw [e]; simp [msOf_len]
/-- A heap that is one is what its words are. -/
theorem HM.Good.ofWords {h : HM} {l : List Ob} (G : h.Good l) : HM.ofWords h.size h.words h.roots h.last = h ∧ parseW h.words = some l := by
  have hp : parseW h.words = some l := by rw [G.laid.words]; exact parseW_obs G.laid.ok
  refine ⟨?_, hp⟩
  unfold HM.ofWords
  rw [hp]
  show HM.mk h.size h.words (false :: msOf l) h.roots h.last = h
  rw [← G.laid.marks]
theorem HM.Good.loadOk {h : HM} {l : List Ob} (G : h.Good l) : LoadOk h.size h.words h.roots h.last := by
  obtain ⟨e, hp⟩ := G.ofWords
  exact ⟨l, hp, by rw [e]; exact G.sound⟩

/-- Going through words: the objects l are behind, the words r are ahead. -/
structure Pre (ws : List Nat) (l : List Ob) (r : List Nat) : Prop where
  eq : ws = 0 :: (wsOf l ++ r)
  ok : ∀ b ∈ l, b.Ok
theorem Pre.parse {ws r : List Nat} {l : List Ob} (p : Pre ws l r) : parseW ws = (parseT r).map (l ++ ·) := by rw [p.eq]; exact parseT_obs p.ok r
theorem Pre.len {ws r : List Nat} {l : List Ob} (p : Pre ws l r) : ws.length = posOf l + r.length := by rw [p.eq]; simp [posOf]; omega
theorem Pre.get {ws r : List Nat} {l : List Ob} (p : Pre ws l r) (j : Nat) : ws.getD (posOf l + j) 0 = r.getD j 0 := by
  rw [p.eq]
  unfold posOf
  rw [Nat.add_assoc, Nat.add_comm 1, List.getD_cons_succ, getD_app_right]
theorem Pre.next {ws r : List Nat} {l : List Ob} {a b c : Nat} (p : Pre ws l (a :: b :: c :: r)) (h32 : ∀ x ∈ ws, x < 4294967296) (h : okhd a b c = true) (hs : (unhd a b c).size ≤ r.length) :
    Pre ws (l ++ [⟨unhd a b c, r.take (unhd a b c).size⟩]) (r.drop (unhd a b c).size) := by
  have hm : ∀ x ∈ a :: b :: c :: r, x < 4294967296 := fun x hx => h32 x (by rw [p.eq]; simp at hx ⊢; right; right; exact hx)
  refine ⟨?_, fun o ho => ?_⟩
  · rw [p.eq, wsOf_app, wsOf_cons, wsOf_nil, List.append_nil, List.append_assoc, ws_of_parse h]
  · rcases List.mem_append.1 ho with ho | ho
    · exact p.ok o ho
    · simp only [List.mem_cons, List.not_mem_nil, or_false] at ho
      subst ho
      exact Ob.ok_of h hs (hm b (by simp)) (hm c (by simp)) (fun x hx => hm x (by simp [hx]))
theorem Pre.start {r : List Nat} : Pre (0 :: r) [] r := ⟨by simp [wsOf_nil], fun _ h => by cases h⟩
end Go.Proofs.YtkpjkbkglnabiaaGreatDoor

namespace Go.Proofs.YtkpjkbkglnabiaaGreatDoor
open Go.RowKit

set_option maxHeartbeats 400000 in
theorem cloneR_u32 {w : World} (ad : Addr) (n c : Nat) {xs : List Value} (hr : Reads w w.heap.size 1 (some ad) n xs) (h1 : ∀ u ∈ xs, u.oneCell' = true) (hn : 0 < n) (hm : n ≤ 2097152) :
    Calls Tryz.prog 53 #[.slice (some ad) n c] w (NewRow 29 xs w) := by
  obtain ⟨i0, hi0, hz0, hz1, hz2⟩ := info_parts info_u32
  have hnil := fun w => Lib.run_eql_slice_nil (P := Tryz.prog) w 42 29 (some ad) n c 0 0 Tryz.underlying42
  have HR2 := Lib.hid (hr.alloc (Nat.le_refl _) (.cells #[] 29))
  have HL := Lib.hid (show xs.length = n by have := hr.1; omega)
  clear hr
  have H1 := Lib.hid h1; clear h1
  go_enter Tryz.func53, Tryz.ntmps53
  go_wp2_with (at_builtin; refine wpList_append_any _ rfl (.tmp 5) (.tmp 6) _ rfl w.heap.size 29 i0 _ 1 4 Tryz.underlying42 hi0 hz0 hz1 hz2 rfl (by omega) (.slice (some ⟨w.heap.size, 0, none⟩) 0 0) 0 [] rfl (owns_empty w _) _ (some ad) n c xs rfl HR2.out H1.out (by simp only [maxLen]; omega) (by omega) (by simp) ?_; intro v1 w1 hown1 hg1 hat1)
  have hb1 : Below w.heap.size w w1 := ((Below.refl _ _).alloc (Nat.le_refl _) _).grown hg1 (by simp) (fun k hk => by simp [Value.ownBlock] at hk; omega)
  rw [Nat.zero_add, List.nil_append] at hown1
  obtain ⟨g1, c1, rfl, hrow, hlen, hge⟩ := Row.of_any hown1 hn
  clear hown1 hg1 hat1
  go_wp2_with fail
  go_ret
  exact ⟨g1, c1, by rw [HL.out]; rfl, hrow, hge, hb1⟩

set_option maxHeartbeats 400000 in
theorem cloneR_oop {w : World} (ad : Addr) (n c : Nat) {xs : List Value} (hr : Reads w w.heap.size 1 (some ad) n xs) (h1 : ∀ u ∈ xs, u.oneCell' = true) (hn : 0 < n) (hm : n ≤ 2097152) :
    Calls Tryz.prog 55 #[.slice (some ad) n c] w (NewRow 30 xs w) := by
  obtain ⟨i0, hi0, hz0, hz1, hz2⟩ := info_parts info_oop
  have hnil := fun w => Lib.run_eql_slice_nil (P := Tryz.prog) w 43 30 (some ad) n c 0 0 Tryz.underlying43
  have HR2 := Lib.hid (hr.alloc (Nat.le_refl _) (.cells #[] 30))
  have HL := Lib.hid (show xs.length = n by have := hr.1; omega)
  clear hr
  have H1 := Lib.hid h1; clear h1
  go_enter Tryz.func55, Tryz.ntmps55
  go_wp2_with (at_builtin; refine wpList_append_any _ rfl (.tmp 5) (.tmp 6) _ rfl w.heap.size 30 i0 _ 1 4 Tryz.underlying43 hi0 hz0 hz1 hz2 rfl (by omega) (.slice (some ⟨w.heap.size, 0, none⟩) 0 0) 0 [] rfl (owns_empty w _) _ (some ad) n c xs rfl HR2.out H1.out (by simp only [maxLen]; omega) (by omega) (by simp) ?_; intro v1 w1 hown1 hg1 hat1)
  have hb1 : Below w.heap.size w w1 := ((Below.refl _ _).alloc (Nat.le_refl _) _).grown hg1 (by simp) (fun k hk => by simp [Value.ownBlock] at hk; omega)
  rw [Nat.zero_add, List.nil_append] at hown1
  obtain ⟨g1, c1, rfl, hrow, hlen, hge⟩ := Row.of_any hown1 hn
  clear hown1 hg1 hat1
  go_wp2_with fail
  go_ret
  exact ⟨g1, c1, by rw [HL.out]; rfl, hrow, hge, hb1⟩
end Go.Proofs.YtkpjkbkglnabiaaGreatDoor

namespace Go.Proofs.YtkpjkbkglnabiaaGreatDoor
open Go.RowKit

/-- What laid answers, and leaves. -/
def LaidP (p : HP) (h : HM) (w : World) (e : Ending) (w' : World) : Prop :=
  ∃ b : Bool, e = .returned (.bool b) ∧ Step p p w w' ∧ (b = false → parseW h.words = none) ∧ (b = true → ∃ l, parseW h.words = some l ∧ HAt w' p { h with starts := false :: msOf l })
def LaidMid (p : HP) (h : HM) (w : World) (k : Nat) (wr : World) : Prop :=
  Step p p w wr ∧ ((∃ l r, Pre h.words l r ∧ k = posOf l ∧ HAt wr p { h with starts := (false :: msOf l) ++ List.replicate r.length false }) ∨
    (h.words.length < k ∧ parseW h.words = none ∧ ∃ st, st.length = h.starts.length ∧ HAt wr p { h with starts := st }))
theorem Pre.none {ws r : List Nat} {l : List Ob} (p : Pre ws l r) (h : parseT r = none) : parseW ws = none := by rw [p.parse, h]; rfl
theorem Pre.done {ws : List Nat} {l : List Ob} (p : Pre ws l []) : parseW ws = some l := by rw [p.parse, parseT_nil]; simp
theorem marks_set (l : List Ob) (o : Ob) (n m : Nat) (hn : n = 3 + o.fs.length + m) :
    ((false :: msOf l) ++ List.replicate n false).set (posOf l) true = (false :: msOf (l ++ [o])) ++ List.replicate m false := by
  subst hn
  have hp : posOf l = (false :: msOf l).length := by simp [posOf, msOf_len]; omega
  rw [hp, List.set_append_right _ _ (Nat.le_refl _), Nat.sub_self, show 3 + o.fs.length + m = (2 + o.fs.length + m) + 1 by omega, List.replicate_succ, List.set_cons_zero, msOf_app, msOf_cons]
  have e : List.replicate (2 + o.fs.length + m) false = List.replicate (2 + o.fs.length) false ++ List.replicate m false := by rw [List.replicate_append_replicate]
  rw [e]
  simp [Ob.ms, msOf]

set_option maxRecDepth 100000 in
set_option maxHeartbeats 2000000 in
theorem laid_any {w : World} {p : HP} {h : HM} (H : HAt w p h) (f : h.Fit) (hs : Spares w) (hfar : Far p) (hst : h.starts = List.replicate h.words.length false) :
    Calls Tryz.prog 58 #[ptr p.g] w (LaidP p h w) := by
  have c0 := H.c0
  have q0 : w.cell? ⟨p.gw, 0, none⟩ = some (.int .u32 (h.words.getD 0 0 : Nat)) := H.word f.one
  have hone := f.one
  have hcap : h.words.length ≤ p.cw := by have := H.2.1; obtain ⟨_, _, h1, _⟩ := this; simpa [u32s] using h1
  have hcm : p.cw ≤ 9223372036854775807 := by have := H.2.1; obtain ⟨_, _, _, h1, _⟩ := this; unfold maxLen at h1; exact h1
  have hhi := f.hi
  have hroom := f.room
  have HF := Lib.hid f
  have HS := Lib.hid hs
  have HFAR := Lib.hid hfar
  have har : ∀ (a : Addr) (c : Nat) (w : World), (Instr.arrayAt 104 (.slice (some a) 3 c)).run Tryz.prog w = .ok (.pointer (some a)) w := fun a c w => by
    have ht : Tryz.prog.underlying 104 = some (.array 3 29) := Tryz.underlying104
    simp [Instr.arrayAt, run_underlying ht]
  unfold ptr
  by_cases h0 : h.words.getD 0 0 = 0
  · obtain ⟨r0, hr0⟩ : ∃ r0, h.words = 0 :: r0 := by
      cases hw : h.words with
      | nil => rw [hw] at hone; simp at hone
      | cons a r => rw [hw] at h0; simp at h0; exact ⟨r, by rw [h0]⟩
    rw [h0] at q0
    have HM0 := Lib.hid (show LaidMid p h w 1 w from ⟨Step.refl _ _, .inl ⟨[], r0, by rw [hr0]; exact Pre.start, rfl, by
      have e : (false :: msOf []) ++ List.replicate r0.length false = h.starts := by rw [hst, hr0]; simp [msOf, List.replicate_succ]
      rw [e]; exact H⟩⟩)
    have HH := Lib.hid H
    have HST := Lib.hid hst
    clear H f hs hfar hst hr0 h0
    go_enter Tryz.func58, Tryz.ntmps58
    go_wp2_with fail
    go_step3
    go_wp2_with fail
    go_step3
    go_wp2_with fail
    go_loopw [3, 4, 5] (fun i _ _ wr => ∃ k : Nat, i = .int .i64 k ∧ k ≤ 20000000 ∧ LaidMid p h w k wr) (fun i _ _ _ => h.words.length - (intOf i).toNat)
    case atStart => exact ⟨1, rfl, by omega, HM0.out⟩
    case round =>
      clear q0 c0
      obtain ⟨k, rfl, hk20, hst1, hmid⟩ := hrel
      rcases hmid with ⟨l, r, hp, rfl, Hr⟩ | ⟨hlong, hnone, st, hsl, Hr⟩
      · have c0 := Hr.c0
        have hlen := hp.len
        have h32 := HF.out.w32
        by_cases hr0 : r = []
        · subst hr0
          have HD := Lib.hid hp.done
          have HX := Lib.hid (show HAt wr p { h with starts := false :: msOf l } by
            have e : (false :: msOf l) ++ List.replicate ([] : List Nat).length false = false :: msOf l := by simp
            rw [e] at Hr; exact Hr)
          simp only [List.length_nil, Nat.add_zero] at hlen
          rw [← hlen] at *
          have hdec : decide (h.words.length < h.words.length) = false := by simp
          have hdec2 : ((h.words.length : Int) == (h.words.length : Int)) = true := by simp
          clear hp Hr h32
          go_wp2_with fail
          go_ret
          exact ⟨true, rfl, hst1, (fun e => by cases e), fun _ => ⟨l, HD.out, HX.out⟩⟩
        · by_cases hr3 : r.length < 3
          · have HN := Lib.hid (hp.none (parseT_short hr0 hr3))
            have hpos : 0 < r.length := List.length_pos_iff.2 hr0
            clear hp hr0 h32
            generalize posOf l = k at *
            generalize r.length = m at *
            have hdec : decide (k < h.words.length) = true := by simp; omega
            have hdec1 : ((h.words.length : Nat) : Int) < (k : Int) + 3 := by omega
            have hdec2 : ((k : Int) == (h.words.length : Int)) = false := by simp; omega
            clear Hr hlen
            go_wp2_with fail
            go_ret
            exact ⟨false, rfl, hst1, fun _ => HN.out, fun e => by cases e⟩
          · obtain ⟨a, b, c, r', rfl⟩ : ∃ a b c r', r = a :: b :: c :: r' := by
              match r, hr3 with
              | a :: b :: c :: r', _ => exact ⟨a, b, c, r', rfl⟩
              | [], h => simp at h
              | [_], h => simp at h
              | [_, _], h => simp at h
            have hm : ∀ x ∈ a :: b :: c :: r', x < 4294967296 := fun x hx => h32 x (by rw [hp.eq]; simp at hx ⊢; right; right; exact hx)
            have ba := hm a (by simp)
            have bb := hm b (by simp)
            have bc := hm c (by simp)
            have g0 := hp.get 0
            have g1 := hp.get 1
            have g2 := hp.get 2
            simp only [Nat.add_zero, List.getD_cons_zero, List.getD_cons_succ] at g0 g1 g2
            have q0 := Hr.word (i := posOf l) (by show posOf l < h.words.length; simp at hlen; omega)
            have q1 := Hr.word (i := posOf l + 1) (by show posOf l + 1 < h.words.length; simp at hlen; omega)
            have q2 := Hr.word (i := posOf l + 2) (by show posOf l + 2 < h.words.length; simp at hlen; omega)
            replace q0 : wr.cell? ⟨p.gw, posOf l, none⟩ = some (.int .u32 (a : Int)) := by rw [← g0]; exact q0
            replace q1 : wr.cell? ⟨p.gw, posOf l + 1, none⟩ = some (.int .u32 (b : Int)) := by rw [← g1]; exact q1
            replace q2 : wr.cell? ⟨p.gw, posOf l + 2, none⟩ = some (.int .u32 (c : Int)) := by rw [← g2]; exact q2
            clear g0 g1 g2 hr0 hr3
            have hgg : p.g < wr.heap.size := Hr.lt (.inl rfl)
            have hgw : p.gw < wr.heap.size := Hr.lt (.inr (.inl rfl))
            have hgs : p.gs < wr.heap.size := Hr.lt (.inr (.inr (.inl rfl)))
            have n1 : wr.heap.size ≠ p.gw := by omega
            have HSP := Lib.hid (hst1.spares HFAR.out HS.out)
            have hdec : decide (posOf l < h.words.length) = true := by simp at hlen ⊢; omega
            have hdec1 : (posOf l : Int) + 3 ≤ ((h.words.length : Nat) : Int) := by simp at hlen; omega
            cases hok : okhd a b c
            · have HN := Lib.hid (hp.none (parseT_bad hok))
              have HOK := Lib.hid hok
              clear hok hp hm h32
              generalize posOf l = k at *
              clear hlen
              go_wp2_with fail
              refine (unpack_bad a b c ba bb bc _ HSP.out HOK.out).mono ?_
              rintro e w1 ⟨rfl, hb1⟩
              have c1 := (Hr.below hb1).c0
              have hsz := hb1.size
              have hgg1 : p.g < w1.heap.size := by omega
              have s1 := (hst1.below' hb1).alloc (.cells #[.int .i64 0, .int .i64 0, .int .i64 0, .int .u32 0, .int .u32 0] 101)
              have hdec2 : ((k : Int) == (h.words.length : Int)) = false := by simp at hdec ⊢; omega
              clear q0 q1 q2 c0 Hr
              go_wp2_with fail
              go_ret
              exact ⟨false, rfl, s1, fun _ => HN.out, fun e => by cases e⟩
            · have hfit := unhd_fit a b c bb bc
              have HOK := Lib.hid hok
              have HSL := Lib.hid (show (false :: msOf l ++ List.replicate (a :: b :: c :: r').length false).length = h.words.length by
                rw [List.length_append, List.length_cons, msOf_len, List.length_replicate, hlen]; unfold posOf; omega)
              by_cases hsz : (unhd a b c).size ≤ r'.length
              · have HP2 := Lib.hid (hp.next h32 hok hsz)
                have HPOS := Lib.hid (posOf_snoc l ⟨unhd a b c, r'.take (unhd a b c).size⟩)
                have HMS := Lib.hid (marks_set l ⟨unhd a b c, r'.take (unhd a b c).size⟩ (a :: b :: c :: r').length (r'.drop (unhd a b c).size).length (by simp; omega))
                have HTL := Lib.hid (show (r'.take (unhd a b c).size).length = (unhd a b c).size by simp; omega)
                have HLEN := Lib.hid (show h.words.length = posOf l + (r'.length + 3) by simpa using hlen)
                clear hlen hm h32 hp
                generalize posOf l = k at *
                have HU := Lib.hid (unpack_any a b c ba bb bc wr HSP.out HOK.out)
                have hxv : (unhd a b c).val = .agg #[.int .i64 (unhd a b c).size, .int .i64 (unhd a b c).fmt, .int .i64 (unhd a b c).spare, .int .u32 (unhd a b c).cls, .int .u32 (unhd a b c).ser] := rfl
                rw [hxv] at HU
                clear hxv hok
                generalize unhd a b c = x at *
                obtain ⟨f1, f2, f3, f4, f5⟩ := hfit
                have hkl : k < h.words.length := by simpa using hdec
                go_wp2_with fail
                refine HU.out.mono ?_
                rintro e w1 ⟨rfl, hb1⟩
                have hb2 := hb1.alloc hb1.size (.cells #[.int .i64 x.size, .int .i64 x.fmt, .int .i64 x.spare, .int .u32 x.cls, .int .u32 x.ser] 101)
                have BH := Blk.new w1 101 #[.int .i64 x.size, .int .i64 x.fmt, .int .i64 x.spare, .int .u32 x.cls, .int .u32 x.ser]
                have Hr2 := Hr.below hb2
                have c1 := Hr2.c1
                have sl : (false :: msOf l ++ List.replicate (a :: b :: c :: r').length false).length = h.words.length := HSL.out
                simp only [sl] at c1
                have m1 := Hr2.mark (i := k) (by show k < (false :: msOf l ++ List.replicate (a :: b :: c :: r').length false).length; rw [sl]; exact hkl)
                have z1 := Hr2.2.2.1.frozen k
                have HS2 := Lib.hid (Hr2.setMark k true)
                have ST2 := Lib.hid ((hst1.below' hb2).setCell (a := ⟨p.gs, k, none⟩) (.inl (.inr (.inr (.inl rfl)))) (.bool true))
                have hne : p.gs ≠ w1.heap.size := by have := hb1.size; omega
                obtain ⟨d0, -, -, -, -⟩ := (BH.far (p := ⟨p.gs, k, none⟩) (fun e => hne e.symm) (.bool true)).cells5
                clear q0 q1 q2 c0 sl hb1 BH
                dsimp only at m1
                generalize (false :: msOf l ++ List.replicate (a :: b :: c :: r').length false).getD k false = mb at m1
                have hk4 : (k : Int) < ((h.words.length : Nat) : Int) := by omega
                go_wp2_with fail
                go_roundw
                case rel =>
                  have hl := HLEN.out
                  refine ⟨k + (3 + x.size), by go_num, by omega, ST2.out, .inl ⟨l ++ [⟨x, r'.take x.size⟩], r'.drop x.size, HP2.out, by rw [HPOS.out, HTL.out]; omega, ?_⟩⟩
                  have e := HS2.out
                  rw [HMS.out] at e
                  exact e
                case measure => simp [intOf]; omega
              · have HN := Lib.hid (hp.none (parseT_long (by omega)))
                have HLEN := Lib.hid (show h.words.length = posOf l + (r'.length + 3) by simpa using hlen)
                clear hlen hm h32 hp
                generalize posOf l = k at *
                have HU := Lib.hid (unpack_any a b c ba bb bc wr HSP.out HOK.out)
                have hxv : (unhd a b c).val = .agg #[.int .i64 (unhd a b c).size, .int .i64 (unhd a b c).fmt, .int .i64 (unhd a b c).spare, .int .u32 (unhd a b c).cls, .int .u32 (unhd a b c).ser] := rfl
                rw [hxv] at HU
                clear hxv hok
                generalize unhd a b c = x at *
                obtain ⟨f1, f2, f3, f4, f5⟩ := hfit
                have hkl : k < h.words.length := by simpa using hdec
                go_wp2_with fail
                refine HU.out.mono ?_
                rintro e w1 ⟨rfl, hb1⟩
                have hb2 := hb1.alloc hb1.size (.cells #[.int .i64 x.size, .int .i64 x.fmt, .int .i64 x.spare, .int .u32 x.cls, .int .u32 x.ser] 101)
                have BH := Blk.new w1 101 #[.int .i64 x.size, .int .i64 x.fmt, .int .i64 x.spare, .int .u32 x.cls, .int .u32 x.ser]
                have Hr2 := Hr.below hb2
                have c1 := Hr2.c1
                have sl : (false :: msOf l ++ List.replicate (a :: b :: c :: r').length false).length = h.words.length := HSL.out
                simp only [sl] at c1
                have m1 := Hr2.mark (i := k) (by show k < (false :: msOf l ++ List.replicate (a :: b :: c :: r').length false).length; rw [sl]; exact hkl)
                have z1 := Hr2.2.2.1.frozen k
                have HS2 := Lib.hid (Hr2.setMark k true)
                have ST2 := Lib.hid ((hst1.below' hb2).setCell (a := ⟨p.gs, k, none⟩) (.inl (.inr (.inr (.inl rfl)))) (.bool true))
                have hne : p.gs ≠ w1.heap.size := by have := hb1.size; omega
                obtain ⟨d0, -, -, -, -⟩ := (BH.far (p := ⟨p.gs, k, none⟩) (fun e => hne e.symm) (.bool true)).cells5
                clear q0 q1 q2 c0 sl hb1 BH
                dsimp only at m1
                generalize (false :: msOf l ++ List.replicate (a :: b :: c :: r').length false).getD k false = mb at m1
                have hk4 : (k : Int) < ((h.words.length : Nat) : Int) := by omega
                go_wp2_with fail
                go_roundw
                case rel =>
                  have hl := HLEN.out
                  refine ⟨k + (3 + x.size), by go_num, by omega, ST2.out, .inr ⟨by omega, HN.out, _, ?_, HS2.out⟩⟩
                  rw [List.length_set, HSL.out, HF.out.marks]
                case measure => simp [intOf]; omega
      · have c0 := Hr.c0
        have hdec : decide (k < h.words.length) = false := by simp; omega
        have hdec2 : ((k : Int) == (h.words.length : Int)) = false := by simp; omega
        have HN := Lib.hid hnone
        clear hnone
        go_wp2_with fail
        go_ret
        exact ⟨false, rfl, hst1, fun _ => HN.out, fun e => by cases e⟩
  · have hb : ((h.words.getD 0 0 : Int) != 0) = true := by rw [bne_iff_ne]; omega
    have HN := Lib.hid (show parseW h.words = none by
      unfold parseW
      split
      · rename_i hw; rw [hw] at h0; simp at h0
      · rfl)
    generalize h.words.getD 0 0 = x at *
    clear h0
    go_enter Tryz.func58, Tryz.ntmps58
    go_wp2_with fail
    go_step3
    go_wp2_with fail
    rw [Exit.noGoto_ret]
    go_ret
    exact ⟨false, rfl, Step.refl _ _, fun _ => HN.out, fun e => by cases e⟩
end Go.Proofs.YtkpjkbkglnabiaaGreatDoor

namespace Go.Proofs.YtkpjkbkglnabiaaGreatDoor
open Go.RowKit

theorem make_bool (F : Nat) (hF : F ≤ 1048576) (w : World) :
    (Instr.makeSlice 89 (.int .i64 (F : Int)) (.int .i64 (F : Int))).run Tryz.prog w = .ok (.slice (some ⟨w.heap.size, 0, none⟩) F F) (w.alloc (.cells (zcells (.bool false) F) 4)) := by
  obtain ⟨i0, hi0, hz0, hz1, hz2⟩ := info_parts info_bool
  have := run_make_rowN (P := Tryz.prog) 89 4 i0 _ Tryz.underlying89 hi0 hz0 .i64 .i64 F F (Nat.le_refl _) (by rw [hz2]; omega) (by omega) w
  have e : madeCells (Value.bool false).cells (F * 1) = zcells (.bool false) F := by
    apply Array.ext
    · simp [madeCells, zcells, Value.cells]
    · intro i h1 h2
      simp [madeCells, zcells, Value.cells, Nat.mod_one]
  rw [this, hz1, e]
theorem falses_row (w : World) (F : Nat) (hF : F ≤ maxLen) : Row (w.alloc (.cells (zcells (.bool false) F) 4)) w.heap.size 4 F (bools (List.replicate F false)) :=
  ⟨zcells (.bool false) F, Blk.new w _ _, by simp [bools], hF, by simp [zcells], by simp [zcells, bools]⟩

/-- Rows that a call has made so far: words, marks, roots. -/
def HasRow (W w : World) (e : TypeId) (xs : List Value) : Option (Nat × Nat) → Prop
  | none => True
  | some (g, c) => W.heap.size ≤ g ∧ Row w g e c xs
def Acc (W : World) (ws rs : List Nat) (w : World) (a b c : Option (Nat × Nat)) : Prop :=
  Below W.heap.size W w ∧ HasRow W w 29 (u32s ws) a ∧ HasRow W w 4 (bools (List.replicate ws.length false)) b ∧ HasRow W w 30 (u32s rs) c
section
variable {W w w' : World} {ws rs : List Nat} {a b c : Option (Nat × Nat)}
theorem HasRow.below {e : TypeId} {xs : List Value} (h : HasRow W w e xs a) (hb : Below w.heap.size w w') : HasRow W w' e xs a := by
  cases a with
  | none => trivial
  | some x => exact ⟨h.1, h.2.below hb⟩
theorem Acc.start (W : World) (ws rs : List Nat) : Acc W ws rs W.drew none none none := ⟨below_drew (Below.refl _ _), trivial, trivial, trivial⟩
theorem Acc.below (h : Acc W ws rs w a b c) (hb : Below w.heap.size w w') : Acc W ws rs w' a b c :=
  ⟨below_top h.1 hb, h.2.1.below hb, h.2.2.1.below hb, h.2.2.2.below hb⟩
theorem Acc.marks (h : Acc W ws rs w a none c) (hF : ws.length ≤ 1048576) : Acc W ws rs (w.alloc (.cells (zcells (.bool false) ws.length) 4)) a (some (w.heap.size, ws.length)) c := by
  have h2 := h.below ((Below.refl _ _).alloc (Nat.le_refl _) (.cells (zcells (.bool false) ws.length) 4))
  exact ⟨h2.1, h2.2.1, ⟨h.1.size, falses_row w ws.length (by simp only [maxLen]; omega)⟩, h2.2.2.2⟩
end
/-- What the clones answer among those rows. -/
def ClonedW (W : World) (ws rs : List Nat) (b c : Option (Nat × Nat)) (e : Ending) (w' : World) : Prop :=
  ∃ g cap, e = .returned (.slice (some ⟨g, 0, none⟩) ws.length cap) ∧ Acc W ws rs w' (some (g, cap)) b c
def ClonedR (W : World) (ws rs : List Nat) (a b : Option (Nat × Nat)) (e : Ending) (w' : World) : Prop :=
  ∃ g cap, e = .returned (.slice (some ⟨g, 0, none⟩) rs.length cap) ∧ Acc W ws rs w' a b (some (g, cap))
theorem acc_words {W w : World} {ws rs : List Nat} {b c : Option (Nat × Nat)} (h : Acc W ws rs w none b c) (ad : Addr) (n k : Nat) (hr : Reads W W.heap.size 1 (some ad) n (u32s ws)) (hn : 0 < n) (hm : n ≤ 1048576) :
    Calls Tryz.prog 53 #[.slice (some ad) n k] w (ClonedW W ws rs b c) := by
  have hl : ws.length = n := by have := hr.1; rw [u32s_len] at this; omega
  refine (cloneR_u32 ad n k ((hr.below h.1).more h.1.size) (one_u32s _) hn (by omega)).mono ?_
  rintro e w' ⟨g, cap, rfl, hrow, hge, hb⟩
  have h2 := h.below hb
  exact ⟨g, cap, by rw [u32s_len], h2.1, ⟨Nat.le_trans h.1.size hge, hrow⟩, h2.2.2.1, h2.2.2.2⟩
theorem acc_roots {W w : World} {ws rs : List Nat} {a b : Option (Nat × Nat)} (h : Acc W ws rs w a b none) (ad : Addr) (n k : Nat) (hr : Reads W W.heap.size 1 (some ad) n (u32s rs)) (hn : 0 < n) (hm : n ≤ 1048576) :
    Calls Tryz.prog 55 #[.slice (some ad) n k] w (ClonedR W ws rs a b) := by
  have hl : rs.length = n := by have := hr.1; rw [u32s_len] at this; omega
  refine (cloneR_oop ad n k ((hr.below h.1).more h.1.size) (one_u32s _) hn (by omega)).mono ?_
  rintro e w' ⟨g, cap, rfl, hrow, hge, hb⟩
  have h2 := h.below hb
  exact ⟨g, cap, by rw [u32s_len], h2.1, h2.2.1, h2.2.2.1, ⟨Nat.le_trans h.1.size hge, hrow⟩⟩
/-- The box behind them is a heap. -/
theorem Acc.heap {W w : World} {ws rs : List Nat} {g1 c1 g2 c2 g3 c3 : Nat} (h : Acc W ws rs w (some (g1, c1)) (some (g2, c2)) (some (g3, c3))) (size last : Nat) :
    HAt (w.alloc (.cells #[.slice (some ⟨g1, 0, none⟩) ws.length c1, .slice (some ⟨g2, 0, none⟩) ws.length c2, .slice (some ⟨g3, 0, none⟩) rs.length c3, .int .i64 size, .int .u32 last] 91))
      ⟨w.heap.size, g1, c1, g2, c2, g3, c3⟩ ⟨size, ws, List.replicate ws.length false, rs, last⟩ ∧ (∀ k, HP.has ⟨w.heap.size, g1, c1, g2, c2, g3, c3⟩ k → W.heap.size ≤ k) := by
  obtain ⟨hb, ⟨h1, r1⟩, ⟨h2, r2⟩, ⟨h3, r3⟩⟩ := h
  refine ⟨⟨?_, r1.alloc _, r2.alloc _, r3.alloc _⟩, ?_⟩
  · have := Blk.new w 91 #[.slice (some ⟨g1, 0, none⟩) ws.length c1, .slice (some ⟨g2, 0, none⟩) ws.length c2, .slice (some ⟨g3, 0, none⟩) rs.length c3, .int .i64 size, .int .u32 last]
    simp only [List.length_replicate]
    exact this
  · rintro k (rfl | rfl | rfl | rfl)
    · exact hb.size
    · exact h1
    · exact h2
    · exact h3

theorem Acc.close {W w : World} {ws rs : List Nat} {g1 c1 g2 c2 g3 c3 n m : Nat} (h : Acc W ws rs w (some (g1, c1)) (some (g2, c2)) (some (g3, c3))) (size last : Nat) (hn : ws.length = n) (hm : rs.length = m) :
    ∃ p2 : HP, Value.pointer (some ⟨w.heap.size, 0, none⟩) = .pointer (some ⟨p2.g, 0, none⟩) ∧
      HAt (w.alloc (.cells #[.slice (some ⟨g1, 0, none⟩) n c1, .slice (some ⟨g2, 0, none⟩) n c2, .slice (some ⟨g3, 0, none⟩) m c3, .int .i64 size, .int .u32 last] 91)) p2 ⟨size, ws, List.replicate n false, rs, last⟩ ∧
      (∀ k, p2.has k → W.heap.size ≤ k) ∧
      Below W.heap.size W (w.alloc (.cells #[.slice (some ⟨g1, 0, none⟩) n c1, .slice (some ⟨g2, 0, none⟩) n c2, .slice (some ⟨g3, 0, none⟩) m c3, .int .i64 size, .int .u32 last] 91)) := by
  subst hn hm
  obtain ⟨h1, h2⟩ := h.heap size last
  exact ⟨_, rfl, h1, h2, h.1.alloc h.1.size _⟩

/-- A heap's struct is overwritten by that of a new one. -/
theorem HAt.moved {W w : World} {p p2 : HP} {h h2 : HM} (H5 : HAt w p h) (H4 : HAt w p2 h2) (hb : Below W.heap.size W w) (hp : p.g < W.heap.size) (hnew : ∀ k, p2.has k → W.heap.size ≤ k) :
    HAt (((((w.setCell ⟨p.g, 0, none⟩ (.slice (some ⟨p2.gw, 0, none⟩) h2.words.length p2.cw)).setCell ⟨p.g, 1, none⟩ (.slice (some ⟨p2.gs, 0, none⟩) h2.starts.length p2.cs)).setCell ⟨p.g, 2, none⟩ (.slice (some ⟨p2.gr, 0, none⟩) h2.roots.length p2.cr)).setCell ⟨p.g, 3, none⟩ (.int .i64 h2.size)).setCell ⟨p.g, 4, none⟩ (.int .u32 h2.last))
      ⟨p.g, p2.gw, p2.cw, p2.gs, p2.cs, p2.gr, p2.cr⟩ h2 ∧
    Step p ⟨p.g, p2.gw, p2.cw, p2.gs, p2.cs, p2.gr, p2.cr⟩ W (((((w.setCell ⟨p.g, 0, none⟩ (.slice (some ⟨p2.gw, 0, none⟩) h2.words.length p2.cw)).setCell ⟨p.g, 1, none⟩ (.slice (some ⟨p2.gs, 0, none⟩) h2.starts.length p2.cs)).setCell ⟨p.g, 2, none⟩ (.slice (some ⟨p2.gr, 0, none⟩) h2.roots.length p2.cr)).setCell ⟨p.g, 3, none⟩ (.int .i64 h2.size)).setCell ⟨p.g, 4, none⟩ (.int .u32 h2.last)) := by
  have n1 : p2.gw ≠ p.g := fun e => by have := hnew _ (.inr (.inl rfl)); omega
  have n2 : p2.gs ≠ p.g := fun e => by have := hnew _ (.inr (.inr (.inl rfl))); omega
  have n3 : p2.gr ≠ p.g := fun e => by have := hnew _ (.inr (.inr (.inr rfl))); omega
  obtain ⟨-, r1, r2, r3⟩ := H4
  refine ⟨⟨H5.1.setAll5 _ _ _ _ _, ((((r1.far n1 _).far n1 _).far n1 _).far n1 _).far n1 _, ((((r2.far n2 _).far n2 _).far n2 _).far n2 _).far n2 _, ((((r3.far n3 _).far n3 _).far n3 _).far n3 _).far n3 _⟩, ?_⟩
  have s := (((((Step.of_below (p := p) hb).setCell (a := ⟨p.g, 0, none⟩) (.inl (.inl rfl)) (.slice (some ⟨p2.gw, 0, none⟩) h2.words.length p2.cw)).setCell (a := ⟨p.g, 1, none⟩) (.inl (.inl rfl)) (.slice (some ⟨p2.gs, 0, none⟩) h2.starts.length p2.cs)).setCell (a := ⟨p.g, 2, none⟩) (.inl (.inl rfl)) (.slice (some ⟨p2.gr, 0, none⟩) h2.roots.length p2.cr)).setCell (a := ⟨p.g, 3, none⟩) (.inl (.inl rfl)) (.int .i64 h2.size)).setCell (a := ⟨p.g, 4, none⟩) (.inl (.inl rfl)) (.int .u32 h2.last)
  refine ⟨s.os, s.tape, s.output, s.size, s.block, rfl, ?_⟩
  rintro k (hk | hk | hk | hk)
  · exact .inl (.inl hk)
  · exact .inr (hnew _ (.inr (.inl hk)))
  · exact .inr (hnew _ (.inr (.inr (.inl hk))))
  · exact .inr (hnew _ (.inr (.inr (.inr hk))))

/-- The error that Load answers. -/
noncomputable def loadE (size : Nat) (ws rs : List Nat) (last : Nat) : Nat :=
  open Classical in if ws.length = 0 ∨ size < ws.length ∨ rs.length ≠ 64 then 1 else if LoadOk size ws rs last then 0 else 20
/-- The heap that there is behind it. -/
noncomputable def HM.loadH (h : HM) (ws rs : List Nat) (last : Nat) : HM := if loadE h.size ws rs last = 0 then HM.ofWords h.size ws rs last else h

section
variable {size : Nat} {ws rs : List Nat} {last : Nat}
theorem loadE_bad (h : ws.length = 0 ∨ size < ws.length ∨ rs.length ≠ 64) : loadE size ws rs last = 1 := by unfold loadE; rw [if_pos h]
theorem loadE_no (h : ¬ (ws.length = 0 ∨ size < ws.length ∨ rs.length ≠ 64)) (hn : ¬ LoadOk size ws rs last) : loadE size ws rs last = 20 := by unfold loadE; rw [if_neg h, if_neg hn]
theorem loadE_ok (h : ¬ (ws.length = 0 ∨ size < ws.length ∨ rs.length ≠ 64)) (hn : LoadOk size ws rs last) : loadE size ws rs last = 0 := by unfold loadE; rw [if_neg h, if_pos hn]
theorem not_loadOk_of_none (h : parseW ws = none) : ¬ LoadOk size ws rs last := by rintro ⟨l, h1, _⟩; rw [h] at h1; cases h1
theorem loadOk_iff {l : List Ob} (h : parseW ws = some l) : LoadOk size ws rs last ↔ (HM.ofWords size ws rs last).Sound l := by
  constructor
  · rintro ⟨l', h1, h2⟩
    rw [h] at h1
    cases h1
    exact h2
  · exact fun s => ⟨l, h, s⟩
end

set_option maxRecDepth 100000 in
set_option maxHeartbeats 4000000 in
theorem Load_any {w : World} {p : HP} {h : HM} (H : HAt w p h) (f : h.Fit) (hs : Spares w) (hfresh : ∀ k, w.heap.size ≤ k → k ≠ 0 ∧ k ≠ 1)
    (A : Option Addr) (n c : Nat) (ws : List Nat) (hn : n ≤ 9223372036854775807) (hr : Reads w w.heap.size 1 A n (u32s ws)) (h32 : ∀ x ∈ ws, x < 4294967296)
    (A' : Option Addr) (n' c' : Nat) (rs : List Nat) (hn' : n' ≤ 9223372036854775807) (hr' : Reads w w.heap.size 1 A' n' (u32s rs)) (h32' : ∀ x ∈ rs, x < 4294967296) (last : Nat) (hl : last < 4294967296) :
    Calls Tryz.prog 16 #[ptr p.g, .slice A n c, .slice A' n' c', .int .u32 last] w (Made p (h.loadH ws rs last) (.int .i64 (loadE h.size ws rs last : Nat)) w) := by
  have hm := Lib.hid (made_any H (by have := f.lo; omega) f.hi)
  have hlw : ws.length = n := by have := hr.1; rw [u32s_len] at this; omega
  have hlr : rs.length = n' := by have := hr'.1; rw [u32s_len] at this; omega
  have c3 := H.c3
  have hlo := f.lo
  have hhi := f.hi
  have HH := Lib.hid H
  have HLW := Lib.hid hlw
  have HLR := Lib.hid hlr
  unfold ptr at hm ⊢
  by_cases hbad : n = 0 ∨ h.size < n ∨ n' ≠ 64
  · have HE := Lib.hid (show loadE h.size ws rs last = 1 ∧ h.loadH ws rs last = h by
      have e := loadE_bad (size := h.size) (ws := ws) (rs := rs) (last := last) (by rw [hlw, hlr]; exact hbad)
      exact ⟨e, by unfold HM.loadH; rw [if_neg (by omega)]⟩)
    clear H hr hr' h32 h32' hlw hlr
    by_cases hb0 : n = 0
    · have hz : ((n : Int) == 0) = true := by simp; omega
      clear hbad hb0
      go_enter Tryz.func16, Tryz.ntmps16
      go_wp2_with fail
      refine hm.out.mono ?_
      rintro e w' ⟨rfl, rfl⟩
      go_wp2_with fail
      go_ret
      exact ⟨p, by rw [HE.out.1]; rfl, by rw [HE.out.2]; exact HH.out, Step.refl _ _⟩
    · have hz : ((n : Int) == 0) = false := by simp; omega
      by_cases hb1 : h.size < n
      · have hz1 : decide (h.size < n) = true := by simpa using hb1
        clear hbad hb0 hb1
        go_enter Tryz.func16, Tryz.ntmps16
        go_wp2_with fail
        refine hm.out.mono ?_
        rintro e w' ⟨rfl, rfl⟩
        go_wp2_with fail
        go_ret
        exact ⟨p, by rw [HE.out.1]; rfl, by rw [HE.out.2]; exact HH.out, Step.refl _ _⟩
      · have hz1 : decide (h.size < n) = false := by simpa using hb1
        have hz2 : ((n' : Int) != 64) = true := by rw [bne_iff_ne]; omega
        clear hbad hb0 hb1
        go_enter Tryz.func16, Tryz.ntmps16
        go_wp2_with fail
        refine hm.out.mono ?_
        rintro e w' ⟨rfl, rfl⟩
        go_wp2_with fail
        go_ret
        exact ⟨p, by rw [HE.out.1]; rfl, by rw [HE.out.2]; exact HH.out, Step.refl _ _⟩
  · have hnn : 0 < n := by omega
    obtain rfl : n' = 64 := by omega
    obtain ⟨ad, rfl, -, -⟩ := hr.2 hnn
    obtain ⟨ad', rfl, -, -⟩ := hr'.2 (by omega)
    have hz : ((n : Int) == 0) = false := by simp; omega
    have hz1 : decide (h.size < n) = false := by simp; omega
    have hmk := make_bool n (by omega)
    have HCW := Lib.hid (fun (w1 : World) (b c0 : Option (Nat × Nat)) (ha : Acc w ws rs w1 none b c0) => acc_words ha ad n c hr hnn (by omega))
    have HCR := Lib.hid (fun (w1 : World) (a b : Option (Nat × Nat)) (ha : Acc w ws rs w1 a b none) => acc_roots ha ad' 64 c' hr' (by omega) (by omega))
    have HAM := Lib.hid (fun (w1 : World) (a c0 : Option (Nat × Nat)) (ha : Acc w ws rs w1 a none c0) => ha.marks (by omega))
    have A0 := Acc.start w ws rs
    have hpg := H.lt (.inl rfl)
    have HC3 := Lib.hid (fun (w1 : World) (hb : Below w.heap.size w w1) => show w1.cell? ⟨p.g, 3, none⟩ = some (.int .i64 h.size) from (hb.cell hpg).trans c3)
    have HNE := Lib.hid (fun (w1 : World) (hb : Below w.heap.size w w1) => show w1.heap.size ≠ p.g by have := hb.size; omega)
    rw [hlw] at HAM
    have hh32 := h32
    have hhr := h32'
    clear H hr hr' h32 h32' hlw hlr
    go_enter Tryz.func16, Tryz.ntmps16
    go_wp2_with fail
    refine hm.out.mono ?_
    rintro e w' ⟨rfl, rfl⟩
    have HH32 := Lib.hid hh32
    have HHR := Lib.hid hhr
    go_upto_region 3 with fail
    go_cut [9] (fun v wx => ∃ p2 : HP, v = .pointer (some ⟨p2.g, 0, none⟩) ∧ HAt wx p2 ⟨h.size, ws, List.replicate n false, rs, last⟩ ∧ (∀ k, p2.has k → w.heap.size ≤ k) ∧ Below w.heap.size w wx)
    case first =>
      have hne0 : w.heap.size ≠ p.g := by omega
      have hc0 := HC3.out w.drew A0.1
      have hc0a := HC3.out (w.drew.alloc (.cells (zcells (.bool false) n) 4)) (A0.1.alloc A0.1.size _)
      go_region_law (first
        | (go_simp; go_at_call 53; refine (HCW.out _ _ _ (by first | assumption | exact HAM.out _ _ _ (by assumption))).mono ?_; rintro e w1 ⟨g1, cap1, rfl, HA1⟩; rw [HLW.out]; have hc1 := HC3.out _ HA1.1; have hc1a := HC3.out (w1.alloc (.cells (zcells (.bool false) n) 4)) (HA1.1.alloc HA1.1.size _); have hn1 := HNE.out _ HA1.1)
        | (go_simp; go_at_call 55; refine (HCR.out _ _ _ (by first | assumption | exact HAM.out _ _ _ (by assumption))).mono ?_; rintro e w2 ⟨g2, cap2, rfl, HA2⟩; rw [HLR.out]; have hc2 := HC3.out _ HA2.1; have hc2a := HC3.out (w2.alloc (.cells (zcells (.bool false) n) 4)) (HA2.1.alloc HA2.1.size _); have hn2 := HNE.out _ HA2.1))
      all_goals go_wp2_with fail
      all_goals go_meet
      all_goals first
        | exact Acc.close (by assumption) h.size last HLW.out HLR.out
        | (have hcl := Acc.close (HAM.out _ _ _ (by assumption)) h.size last HLW.out HLR.out; rw [World.size_alloc] at hcl; exact hcl)
    case rest =>
      obtain ⟨p2, rfl, H2, hnew, hb2⟩ := hcut
      have hfit : HM.Fit ⟨h.size, ws, List.replicate n false, rs, last⟩ := ⟨hlo, hhi, by show 1 ≤ ws.length; rw [HLW.out]; omega, by show ws.length ≤ h.size; rw [HLW.out]; omega, by show (List.replicate n false).length = ws.length; rw [List.length_replicate, HLW.out], HLR.out, hh32, hhr, hl⟩
      have hbad' : ¬ (ws.length = 0 ∨ h.size < ws.length ∨ rs.length ≠ 64) := by rw [HLW.out, HLR.out]; exact hbad
      have HS2 := hs.below hb2
      have hfar2 : Far p2 := fun k hk => hfresh k (hnew k hk)
      have HLD := Lib.hid (laid_any H2 hfit HS2 hfar2 (by show List.replicate n false = List.replicate ws.length false; rw [HLW.out]))
      unfold ptr at HLD
      have HFIT := Lib.hid hfit
      have HB' := Lib.hid hbad'
      have hno : loadE h.size ws rs last = 20 → (loadE h.size ws rs last = 20 ∧ h.loadH ws rs last = h) := fun e => ⟨e, by unfold HM.loadH; rw [if_neg (by omega)]⟩
      have HNO := Lib.hid hno
      clear hfit hbad' hno hh32 hhr hz hz1 hbad hmk
      go_wp2_with fail
      refine HLD.out.mono ?_
      rintro e w3 ⟨b, rfl, s3, hbf, hbt⟩
      have HBF := Lib.hid hbf
      have HBT := Lib.hid hbt
      clear hbf hbt
      have hb3 := s3.below hb2 hnew
      cases b
      · have HE := Lib.hid (HNO.out (loadE_no HB'.out (not_loadOk_of_none (HBF.out rfl))))
        go_wp2_with fail
        go_ret
        exact ⟨p, by rw [HE.out.1]; rfl, by rw [HE.out.2]; exact HH.out.below hb3, .of_below hb3⟩
      · obtain ⟨l, hpl, H3⟩ := HBT.out rfl
        have HPL := Lib.hid hpl
        have hof : (⟨h.size, ws, false :: msOf l, rs, last⟩ : HM) = HM.ofWords h.size ws rs last := by
          unfold HM.ofWords
          rw [hpl]
          rfl
        have hinv := parseW_inv HH32.out hpl
        have L3 : HM.Laid ⟨h.size, ws, false :: msOf l, rs, last⟩ l := ⟨hinv.1, rfl, hinv.2⟩
        have F3 : HM.Fit ⟨h.size, ws, false :: msOf l, rs, last⟩ := ⟨hlo, hhi, HFIT.out.one, HFIT.out.room, by
          show (false :: msOf l).length = ws.length
          rw [hinv.1]; simp [msOf_len], HLR.out, HH32.out, HHR.out, hl⟩
        have HSN := Lib.hid (sound_any H3 F3 L3 (hs.below hb3))
        unfold ptr at HSN
        have HOF := Lib.hid hof
        have H3' := Lib.hid H3
        clear hpl hof hinv L3 F3 H3 HLD
        go_wp2_with fail
        refine HSN.out.mono ?_
        rintro e w4 ⟨b2, rfl, hiff, hb4⟩
        have HIFF := Lib.hid hiff
        clear hiff
        have hb5 := below_top hb3 hb4
        cases b2
        · have HE := Lib.hid (HNO.out (loadE_no HB'.out (fun ok => by
            have := (loadOk_iff HPL.out).1 ok
            rw [← HOF.out] at this
            exact absurd (HIFF.out.2 this) (by decide))))
          go_wp2_with fail
          go_ret
          exact ⟨p, by rw [HE.out.1]; rfl, by rw [HE.out.2]; exact HH.out.below hb5, .of_below hb5⟩
        · have hok := loadE_ok HB'.out ((loadOk_iff HPL.out).2 (by rw [← HOF.out]; exact HIFF.out.1 rfl))
          have HE := Lib.hid (show loadE h.size ws rs last = 0 ∧ h.loadH ws rs last = HM.ofWords h.size ws rs last from ⟨hok, by unfold HM.loadH; rw [if_pos hok]⟩)
          clear hok
          have H4 := H3'.out.below hb4
          obtain ⟨d0, d1, d2, d3, d4⟩ := H4.1.cells5
          have H5 := HH.out.below hb5
          obtain ⟨e0, e1, e2, e3, e4⟩ := H5.1.cells5
          have ez := H5.1.fz
          have HMV := Lib.hid (H5.moved H4 hb5 hpg hnew)
          have HOF2 := Lib.hid (HE.out.2.trans HOF.out.symm)
          clear H4 H5
          dsimp only at d0 d1 d2 d3 d4 HMV
          go_wp2_with fail
          go_ret
          exact ⟨_, by rw [HE.out.1]; rfl, by rw [HOF2.out]; exact HMV.out.1, HMV.out.2⟩
end Go.Proofs.YtkpjkbkglnabiaaGreatDoor

namespace Go.Proofs.YtkpjkbkglnabiaaGreatDoor
open Go.RowKit

theorem Live.load {W w : World} {p : HP} {g : Nat} {h : HM} (L : Live W w p g h) (A : Option Addr) (n c : Nat) (ws : List Nat) (hn : n ≤ 9223372036854775807) (hr : Reads w w.heap.size 1 A n (u32s ws)) (h32 : ∀ x ∈ ws, x < 4294967296)
    (A' : Option Addr) (n' c' : Nat) (rs : List Nat) (hn' : n' ≤ 9223372036854775807) (hr' : Reads w w.heap.size 1 A' n' (u32s rs)) (h32' : ∀ x ∈ rs, x < 4294967296) (last : Nat) (hl : last < 4294967296) :
    Calls Tryz.prog 16 #[.pointer (some ⟨g, 0, none⟩), .slice A n c, .slice A' n' c', .int .u32 last] w (Done W p g (h.loadH ws rs last) (.int .i64 (loadE h.size ws rs last : Nat)) w) := by
  have hh := Load_any L.at_ L.fit L.envw.spares (fun k hk => by
    have h1 := L.envw.spares.lt
    have h2 := L.envw.pow.lt
    exact ⟨by omega, by omega⟩) A n c ws hn hr h32 A' n' c' rs hn' hr' h32' last hl
  rw [L.hg] at hh
  refine hh.mono fun _ _ H => L.of_made ?_ H
  unfold HM.loadH
  by_cases he : loadE h.size ws rs last = 0
  · rw [if_pos he]
    unfold loadE at he
    split at he
    · omega
    · rename_i hb
      split at he
      · rename_i hok
        obtain ⟨l, hp, S⟩ := hok
        have f := L.fit
        exact ⟨l, HM.ofWords_good f.lo f.hi h32 h32' (by omega) hl (by omega) hp S⟩
      · omega
  · rw [if_neg he]; exact L.good
theorem Live.same {W w W2 : World} {p q : HP} {g k : Nat} {a b : HM} (La : Live W w p g a) (Lb : Live W2 w q k b) :
    Calls Tryz.prog 13 #[.pointer (some ⟨g, 0, none⟩), .pointer (some ⟨k, 0, none⟩)] w (Told (.bool (sameH a b)) w) := by
  have hh := Same_any La.at_ Lb.at_ La.fit Lb.fit
  rw [La.hg, Lb.hg] at hh
  exact hh.mono fun e w' ⟨he, m, hm⟩ => ⟨he, hm ▸ below_drewN (Below.refl _ _) m⟩
theorem HM.Good.load_self {h h0 : HM} {l : List Ob} (G : h.Good l) (hs : h0.size = h.size) : loadE h0.size h.words h.roots h.last = 0 ∧ h0.loadH h.words h.roots h.last = h := by
  have e := loadE_ok (size := h0.size) (ws := h.words) (rs := h.roots) (last := h.last) (by
    have := G.fit.one; have := G.fit.room; have := G.fit.roots
    omega) (by rw [hs]; exact G.loadOk)
  refine ⟨e, ?_⟩
  unfold HM.loadH
  rw [if_pos e, hs]
  exact G.ofWords.1

end Go.Proofs.YtkpjkbkglnabiaaGreatDoor
