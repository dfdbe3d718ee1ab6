/- Deeds of a script on plain data. -/
/- Words cut into objects. Plain data. -/
/- (*Heap).laid: goes through the words. -/
import Derived.Test.YtblekggklimpeaaDoorJLaid
import Derived.Test.YtblekggklimpeaaDoorJMay
import Derived.WalkMore
set_option linter.unusedVariables false
set_option linter.unusedSectionVars false
namespace Go.Proofs.YtblekggklimpeaaDoor
open Go.RowKit


/-- A deed of a script. -/
structure Dd where
  k : Int
  o : Nat
  v : Nat
  f : Int
  i : Int
  n : Int
  w : Nat
  b : List Nat
structure Dd.Fit (d : Dd) : Prop where
  o : d.o < 4294967296
  v : d.v < 4294967296
  w : d.w < 4294967296
  b : ∀ x ∈ d.b, x < 256
def Dd.what (d : Dd) : Int := d.k.tmod 14
/-- What a deed leaves; the object that it makes; the error that it answers. -/
def HM.actH (h : HM) (d : Dd) : HM :=
  if d.what = 0 then h.AllocH d.v d.f d.n else if d.what = 1 then h.makeH d.v d.b else if d.what = 3 then h.putH d.o d.i d.v else if d.what = 5 then h.setWordH d.o d.i d.w
  else if d.what = 7 then h.setByteH d.o d.i (d.w % 256) else if d.what = 9 then h.setClassH d.o d.v else if d.what = 10 then h.setRootH d.i d.v else h
def HM.actO (h : HM) (d : Dd) : Nat :=
  if d.what = 0 then (if h.AllocE d.v d.f d.n = 0 then 2 * h.words.length else 0) else if d.what = 1 then (if h.makeE d.v d.b = 0 then 2 * h.words.length else 0) else 0

/-- Behind a deed: a script's heap again; what was made is the last object, else there are as many words as before. -/
theorem HM.Scr.act {h : HM} {l : List Ob} (s : h.Scr l) (d : Dd) (fd : d.Fit) : ∃ l', (h.actH d).Scr l' ∧ h.Le (h.actH d) ∧ (h.actH d).size = h.size ∧
    ((h.actO d = 0 ∧ (h.actH d).words.length = h.words.length ∧ (h.actH d).last = h.last ∧ (h.actH d).starts = h.starts) ∨
     (h.actO d = 2 * h.words.length ∧ ∃ b, l' = l ++ [b] ∧ b.x.ser = h.last + 1 ∧ (h.actH d).words = h.words ++ b.ws ∧ (h.actH d).roots = h.roots ∧ (h.actH d).last = h.last + 1)) := by
  have same : ∀ (h' : HM) (l' : List Ob), h'.Good l' → l'.map (·.x.ser) = l.map (·.x.ser) → h'.words.length = h.words.length → h'.last = h.last → h'.starts = h.starts → h'.size = h.size →
      ∃ l', h'.Scr l' ∧ h.Le h' ∧ h'.size = h.size ∧
    (((0 : Nat) = 0 ∧ h'.words.length = h.words.length ∧ h'.last = h.last ∧ h'.starts = h.starts) ∨
     (0 = 2 * h.words.length ∧ ∃ b, l' = l ++ [b] ∧ b.x.ser = h.last + 1 ∧ h'.words = h.words ++ b.ws ∧ h'.roots = h.roots ∧ h'.last = h.last + 1)) := by
    intro h' l' G e1 e2 e3 e4 e5
    exact ⟨l', ⟨G, by rw [e1, e3]; exact s.sers⟩, HM.le_of_starts (x := []) (by rw [e4, List.append_nil]), e5, .inl ⟨rfl, e2, e3, e4⟩⟩
  unfold HM.actH HM.actO
  by_cases h0 : d.what = 0
  · rw [if_pos h0, if_pos h0]
    by_cases he : h.AllocE d.v d.f d.n = 0
    · rw [if_pos he, HM.AllocH_eq, if_pos he]
      have hE := he
      unfold HM.AllocE at he
      split at he
      · rename_i hok
        obtain ⟨hx, hm⟩ := mkHd_ok fd.v hok
        have G := s.good.allocH (mkHd d.v d.f d.n) hx hm rfl he
        unfold HM.allocH at G
        rw [if_pos he] at G
        exact ⟨_, s.snoc G rfl rfl, HM.le_of_starts (x := true :: List.replicate (2 + (mkHd d.v d.f d.n).size) false) rfl, rfl, .inr ⟨rfl, _, rfl, rfl, by simp [HM.pushH, Ob.ws, Hd.w0], rfl, rfl⟩⟩
      · omega
    · rw [if_neg he, HM.AllocH_eq, if_neg he]
      exact same h l s.good rfl rfl rfl rfl rfl
  rw [if_neg h0, if_neg h0]
  by_cases h1 : d.what = 1
  · rw [if_pos h1, if_pos h1]
    by_cases he : h.makeE d.v d.b = 0
    · have G := s.good.makeH d.v d.b fd.v fd.b he
      rw [if_pos he]
      unfold HM.makeH at G ⊢
      rw [if_pos he] at G ⊢
      exact ⟨_, s.snoc G rfl rfl, HM.le_of_starts (x := true :: List.replicate (2 + (makeX d.v d.b).size) false) rfl, rfl, .inr ⟨rfl, _, rfl, rfl, by simp [HM.pushH, Ob.ws, Hd.w0], rfl, rfl⟩⟩
    · rw [if_neg he]
      unfold HM.makeH
      rw [if_neg he]
      exact same h l s.good rfl rfl rfl rfl rfl
  rw [if_neg h1, if_neg h1]
  by_cases h3 : d.what = 3
  · rw [if_pos h3]
    obtain ⟨l', G, e⟩ := s.good.putH d.o d.i d.v fd.v
    refine same _ l' G e ?_ ?_ ?_ ?_ <;> unfold HM.putH <;> split <;> simp [HM.setF]
  rw [if_neg h3]
  by_cases h5 : d.what = 5
  · rw [if_pos h5]
    obtain ⟨l', G, e⟩ := s.good.setWordH d.o d.i d.w fd.w
    refine same _ l' G e ?_ ?_ ?_ ?_ <;> unfold HM.setWordH <;> split <;> simp [HM.setF]
  rw [if_neg h5]
  by_cases h7 : d.what = 7
  · rw [if_pos h7]
    obtain ⟨l', G, e⟩ := s.good.setByteH d.o d.i (d.w % 256) (Nat.mod_lt _ (by omega))
    refine same _ l' G e ?_ ?_ ?_ ?_ <;> unfold HM.setByteH <;> split <;> simp [HM.setF]
  rw [if_neg h7]
  by_cases h9 : d.what = 9
  · rw [if_pos h9]
    obtain ⟨l', G, e⟩ := s.good.setClassH d.o d.v fd.v
    refine same _ l' G e ?_ ?_ ?_ ?_ <;> unfold HM.setClassH <;> split <;> simp
  rw [if_neg h9]
  by_cases h10 : d.what = 10
  · rw [if_pos h10]
    have G := s.good.setRootH d.i d.v fd.v
    refine same _ l G rfl ?_ ?_ ?_ ?_ <;> unfold HM.setRootH <;> split <;> simp
  rw [if_neg h10]
  exact same h l s.good rfl rfl rfl rfl rfl

/-- A script of deeds: the heap behind it, the objects made. -/
def HM.runH (h : HM) (ds : List Dd) : HM := ds.foldl HM.actH h
def HM.runM (h : HM) : List Dd → List Nat
  | [] => []
  | d :: ds => (if h.actO d = 0 then [] else [h.actO d]) ++ (h.actH d).runM ds
theorem HM.runH_snoc (h : HM) (ds : List Dd) (d : Dd) : h.runH (ds ++ [d]) = (h.runH ds).actH d := by simp [HM.runH]
theorem HM.runM_snoc (h : HM) (ds : List Dd) (d : Dd) : h.runM (ds ++ [d]) = h.runM ds ++ (if (h.runH ds).actO d = 0 then [] else [(h.runH ds).actO d]) := by
  induction ds generalizing h with
  | nil =>
    simp only [List.nil_append, HM.runM, HM.runH, List.foldl_nil, List.append_nil]
    rfl
  | cons e ds ih => simp only [List.cons_append, HM.runM, ih, List.append_assoc]; rfl
theorem HM.Scr.run {h : HM} {l : List Ob} (s : h.Scr l) (ds : List Dd) (fd : ∀ d ∈ ds, d.Fit) :
    ∃ l', (h.runH ds).Scr l' ∧ h.Le (h.runH ds) ∧ (h.runH ds).size = h.size ∧ l.length + (h.runM ds).length = l'.length ∧ (∀ o ∈ h.runM ds, (h.runH ds).isB o = true) := by
  induction ds generalizing h l with
  | nil => exact ⟨l, s, fun _ h => h, rfl, rfl, fun _ h => by cases h⟩
  | cons d ds ih =>
    obtain ⟨l1, s1, k1, z1, hd⟩ := s.act d (fd d (by simp))
    obtain ⟨l2, s2, k2, z2, hn, hm⟩ := ih s1 (fun d hd => fd d (List.mem_cons_of_mem _ hd))
    refine ⟨l2, s2, fun o ho => k2 o (k1 o ho), z2.trans z1, ?_, ?_⟩
    · rcases hd with ⟨e0, _, e1, _⟩ | ⟨e0, b, rfl, _, _, _, _⟩
      · have := s.len; have := s1.len
        simp only [HM.runM, e0, if_true, List.nil_append]
        omega
      · have hw := s.good.fit.one
        simp only [HM.runM, List.length_append]
        rw [if_neg (by omega)]
        simp at hn ⊢
        omega
    · intro o ho
      unfold HM.runM at ho
      rw [List.mem_append] at ho
      rcases ho with ho | ho
      · split at ho
        · cases ho
        · rename_i hne
          simp only [List.mem_cons, List.not_mem_nil, or_false] at ho
          subst ho
          rcases hd with ⟨e0, _⟩ | ⟨e0, b, rfl, _, hw, _, _⟩
          · exact absurd e0 hne
          · apply k2
            rw [e0]
            refine (s1.good.laid.isB_iff _).2 ⟨l, b, [], rfl, ?_⟩
            rw [s.good.laid.words]
            simp [posOf]; omega
      · exact hm o ho
end Go.Proofs.YtblekggklimpeaaDoor

namespace Go.Proofs.YtblekggklimpeaaDoor
open Go.RowKit


/-- Words cut into objects: the only way there is. -/
def parseF : Nat → List Nat → Option (List Ob)
  | 0, _ => none
  | _ + 1, [] => some []
  | f + 1, a :: b :: c :: r => if okhd a b c && decide ((unhd a b c).size ≤ r.length) then (parseF f (r.drop (unhd a b c).size)).map (⟨unhd a b c, r.take (unhd a b c).size⟩ :: ·) else none
  | _ + 1, _ => none
def parseT (ws : List Nat) : Option (List Ob) := parseF (ws.length + 1) ws
def parseW : List Nat → Option (List Ob)
  | 0 :: r => parseT r
  | _ => none
theorem parseF_fuel : ∀ (f g : Nat) (ws : List Nat), ws.length < f → ws.length < g → parseF f ws = parseF g ws
  | 0, _, _, h, _ => absurd h (by omega)
  | _, 0, _, _, h => absurd h (by omega)
  | f + 1, g + 1, [], _, _ => rfl
  | f + 1, g + 1, [_], _, _ => rfl
  | f + 1, g + 1, [_, _], _, _ => rfl
  | f + 1, g + 1, a :: b :: c :: r, h1, h2 => by
    unfold parseF
    split
    · rw [parseF_fuel f g _ (by simp at h1 ⊢; omega) (by simp at h2 ⊢; omega)]
    · rfl
theorem parseT_nil : parseT [] = some [] := rfl
theorem parseT_short {ws : List Nat} (h0 : ws ≠ []) (h3 : ws.length < 3) : parseT ws = none := by
  match ws, h0, h3 with
  | [_], _, _ => rfl
  | [_, _], _, _ => rfl
  | _ :: _ :: _ :: _, _, h => simp at h; omega
theorem parseT_bad {a b c : Nat} {r : List Nat} (h : okhd a b c = false) : parseT (a :: b :: c :: r) = none := by
  unfold parseT
  unfold parseF
  rw [h, Bool.false_and, if_neg (by decide)]
theorem parseT_long {a b c : Nat} {r : List Nat} (h : r.length < (unhd a b c).size) : parseT (a :: b :: c :: r) = none := by
  unfold parseT
  unfold parseF
  rw [decide_eq_false (by omega), Bool.and_false, if_neg (by decide)]
theorem parseT_ok {a b c : Nat} {r : List Nat} (h : okhd a b c = true) (hs : (unhd a b c).size ≤ r.length) :
    parseT (a :: b :: c :: r) = (parseT (r.drop (unhd a b c).size)).map (⟨unhd a b c, r.take (unhd a b c).size⟩ :: ·) := by
  unfold parseT
  conv => lhs; unfold parseF
  rw [h, decide_eq_true hs, Bool.true_and, if_pos rfl, parseF_fuel _ ((r.drop (unhd a b c).size).length + 1) _ (by simp; omega) (by omega)]
theorem Ob.ok_of {a b c : Nat} {r : List Nat} (h : okhd a b c = true) (hs : (unhd a b c).size ≤ r.length) (hb : b < 4294967296) (hc : c < 4294967296) (hr : ∀ x ∈ r, x < 4294967296) :
    Ob.Ok ⟨unhd a b c, r.take (unhd a b c).size⟩ := by
  unfold okhd at h
  rw [Bool.and_eq_true] at h
  exact ⟨⟨Nat.mod_lt _ (by omega), Nat.mod_lt _ (by omega), Nat.mod_lt _ (by omega), hb, hc⟩, h.1, by rw [List.length_take]; show (unhd a b c).size = _; omega, fun f hf => hr f (List.mem_of_mem_take hf)⟩
theorem okhd_w0 {a b c : Nat} (h : okhd a b c = true) : (unhd a b c).w0 = a := by
  unfold okhd at h
  simp only [Bool.and_eq_true, decide_eq_true_eq] at h
  have h2 := h.2
  unfold Hd.w0 unhd
  show a % 16777216 + a / 16777216 % 8 * 16777216 + a / 134217728 % 4 * 134217728 = a
  omega
theorem ws_of_parse {a b c : Nat} {r : List Nat} (h : okhd a b c = true) : (Ob.ws ⟨unhd a b c, r.take (unhd a b c).size⟩) ++ r.drop (unhd a b c).size = a :: b :: c :: r := by
  unfold Ob.ws
  show (unhd a b c).w0 :: b :: c :: r.take _ ++ r.drop _ = _
  rw [okhd_w0 h]
  simp
theorem okhd_ob {b : Ob} (k : b.Ok) : okhd b.x.w0 b.x.cls b.x.ser = true := by
  unfold okhd
  rw [unhd_ob k, k.may]
  exact (Bool.true_and _).trans (decide_eq_true (w0_lt k.fit))
theorem parseT_ob {b : Ob} (k : b.Ok) (r : List Nat) : parseT (b.ws ++ r) = (parseT r).map (b :: ·) := by
  unfold Ob.ws
  rw [List.cons_append, List.cons_append, List.cons_append, parseT_ok (okhd_ob k) (by rw [unhd_ob k, k.size]; simp), unhd_ob k, k.size, List.drop_left, List.take_left]
theorem parseT_obs {l : List Ob} (k : ∀ b ∈ l, b.Ok) (r : List Nat) : parseT (wsOf l ++ r) = (parseT r).map (l ++ ·) := by
  induction l with
  | nil => cases h : parseT r <;> simp [wsOf_nil, h]
  | cons b l ih =>
    rw [wsOf_cons, List.append_assoc, parseT_ob (k b (by simp)), ih (fun b hb => k b (List.mem_cons_of_mem _ hb)), Option.map_map]
    rfl
theorem parseW_obs {l : List Ob} (k : ∀ b ∈ l, b.Ok) : parseW (0 :: wsOf l) = some l := by
  have := parseT_obs k []
  rw [List.append_nil, parseT_nil] at this
  show parseT (wsOf l) = _
  rw [this]
  simp
theorem parseF_inv : ∀ (f : Nat) (ws : List Nat) (l : List Ob), (∀ x ∈ ws, x < 4294967296) → parseF f ws = some l → ws = wsOf l ∧ ∀ b ∈ l, b.Ok
  | 0, _, _, _, h => by cases h
  | f + 1, [], l, _, h => by cases h; exact ⟨rfl, fun _ hb => by cases hb⟩
  | f + 1, [_], l, _, h => by cases h
  | f + 1, [_, _], l, _, h => by cases h
  | f + 1, a :: b :: c :: r, l, h32, h => by
    unfold parseF at h
    split at h
    · rename_i hc
      rw [Bool.and_eq_true, decide_eq_true_eq] at hc
      rw [Option.map_eq_some_iff] at h
      obtain ⟨l', h1, rfl⟩ := h
      obtain ⟨e, k⟩ := parseF_inv f _ l' (fun x hx => h32 x (by have := List.mem_of_mem_drop hx; simp [this])) h1
      refine ⟨?_, ?_⟩
      · rw [wsOf_cons, ← e]
        exact (ws_of_parse hc.1).symm
      · intro o ho
        rcases List.mem_cons.1 ho with rfl | ho
        · exact Ob.ok_of hc.1 hc.2 (h32 b (by simp)) (h32 c (by simp)) (fun x hx => h32 x (by simp [hx]))
        · exact k o ho
    · cases h
theorem parseW_inv {ws : List Nat} {l : List Ob} (h32 : ∀ x ∈ ws, x < 4294967296) (h : parseW ws = some l) : ws = 0 :: wsOf l ∧ ∀ b ∈ l, b.Ok := by
  unfold parseW at h
  split at h
  · rename_i r
    obtain ⟨e, k⟩ := parseF_inv _ _ _ (fun x hx => h32 x (List.mem_cons_of_mem _ hx)) h
    exact ⟨by rw [← e], k⟩
  · cases h

/-- The heap that words, roots and a last serial are. -/
def HM.ofWords (size : Nat) (words roots : List Nat) (last : Nat) : HM := ⟨size, words, false :: msOf ((parseW words).getD []), roots, last⟩
/-- Whether they are one. -/
def LoadOk (size : Nat) (words roots : List Nat) (last : Nat) : Prop := ∃ l, parseW words = some l ∧ (HM.ofWords size words roots last).Sound l
theorem HM.ofWords_good {size : Nat} {words roots : List Nat} {last : Nat} {l : List Ob} (h1 : 64 ≤ size) (h2 : size ≤ 1048576) (hw : ∀ x ∈ words, x < 4294967296) (hr : ∀ x ∈ roots, x < 4294967296) (hrl : roots.length = 64)
    (hl : last < 4294967296) (hs : words.length ≤ size) (hp : parseW words = some l) (S : (HM.ofWords size words roots last).Sound l) : (HM.ofWords size words roots last).Good l := by
  obtain ⟨e, k⟩ := parseW_inv hw hp
  have e2 : (HM.ofWords size words roots last).starts = false :: msOf l := by show false :: msOf ((parseW words).getD []) = _; rw [hp]; rfl
  refine ⟨⟨h1, h2, ?_, hs, ?_, hrl, hw, hr, hl⟩, ⟨e, e2, k⟩, S⟩
  · show 1 ≤ words.length
    rw [e]; simp
  · rw [e2]
    show _ = words.length
    rw [e]; simp [msOf_len]
/-- A heap that is one is what its words are. -/
theorem HM.Good.ofWords {h : HM} {l : List Ob} (G : h.Good l) : HM.ofWords h.size h.words h.roots h.last = h ∧ parseW h.words = some l := by
  have hp : parseW h.words = some l := by rw [G.laid.words]; exact parseW_obs G.laid.ok
  refine ⟨?_, hp⟩
  unfold HM.ofWords
  rw [hp]
  show HM.mk h.size h.words (false :: msOf l) h.roots h.last = h
  rw [← G.laid.marks]
theorem HM.Good.loadOk {h : HM} {l : List Ob} (G : h.Good l) : LoadOk h.size h.words h.roots h.last := by
  obtain ⟨e, hp⟩ := G.ofWords
  exact ⟨l, hp, by rw [e]; exact G.sound⟩

/-- Going through words: the objects l are behind, the words r are ahead. -/
structure Pre (ws : List Nat) (l : List Ob) (r : List Nat) : Prop where
  eq : ws = 0 :: (wsOf l ++ r)
  ok : ∀ b ∈ l, b.Ok
theorem Pre.parse {ws r : List Nat} {l : List Ob} (p : Pre ws l r) : parseW ws = (parseT r).map (l ++ ·) := by rw [p.eq]; exact parseT_obs p.ok r
theorem Pre.len {ws r : List Nat} {l : List Ob} (p : Pre ws l r) : ws.length = posOf l + r.length := by rw [p.eq]; simp [posOf]; omega
theorem Pre.get {ws r : List Nat} {l : List Ob} (p : Pre ws l r) (j : Nat) : ws.getD (posOf l + j) 0 = r.getD j 0 := by
  rw [p.eq]
  unfold posOf
  rw [Nat.add_assoc, Nat.add_comm 1, List.getD_cons_succ, getD_app_right]
theorem Pre.next {ws r : List Nat} {l : List Ob} {a b c : Nat} (p : Pre ws l (a :: b :: c :: r)) (h32 : ∀ x ∈ ws, x < 4294967296) (h : okhd a b c = true) (hs : (unhd a b c).size ≤ r.length) :
    Pre ws (l ++ [⟨unhd a b c, r.take (unhd a b c).size⟩]) (r.drop (unhd a b c).size) := by
  have hm : ∀ x ∈ a :: b :: c :: r, x < 4294967296 := fun x hx => h32 x (by rw [p.eq]; simp at hx ⊢; right; right; exact hx)
  refine ⟨?_, fun o ho => ?_⟩
  · rw [p.eq, wsOf_app, wsOf_cons, wsOf_nil, List.append_nil, List.append_assoc, ws_of_parse h]
  · rcases List.mem_append.1 ho with ho | ho
    · exact p.ok o ho
    · simp only [List.mem_cons, List.not_mem_nil, or_false] at ho
      subst ho
      exact Ob.ok_of h hs (hm b (by simp)) (hm c (by simp)) (fun x hx => hm x (by simp [hx]))
theorem Pre.start {r : List Nat} : Pre (0 :: r) [] r := ⟨by simp [wsOf_nil], fun _ h => by cases h⟩
end Go.Proofs.YtblekggklimpeaaDoor

namespace Go.Proofs.YtblekggklimpeaaDoor
open Go.RowKit

/-- What laid answers, and leaves. -/
def LaidP (p : HP) (h : HM) (w : World) (e : Ending) (w' : World) : Prop :=
  ∃ b : Bool, e = .returned (.bool b) ∧ Step p p w w' ∧ (b = false → parseW h.words = none) ∧ (b = true → ∃ l, parseW h.words = some l ∧ HAt w' p { h with starts := false :: msOf l })
def LaidMid (p : HP) (h : HM) (w : World) (k : Nat) (wr : World) : Prop :=
  Step p p w wr ∧ ((∃ l r, Pre h.words l r ∧ k = posOf l ∧ HAt wr p { h with starts := (false :: msOf l) ++ List.replicate r.length false }) ∨
    (h.words.length < k ∧ parseW h.words = none ∧ ∃ st, st.length = h.starts.length ∧ HAt wr p { h with starts := st }))
theorem Pre.none {ws r : List Nat} {l : List Ob} (p : Pre ws l r) (h : parseT r = none) : parseW ws = none := by rw [p.parse, h]; rfl
theorem Pre.done {ws : List Nat} {l : List Ob} (p : Pre ws l []) : parseW ws = some l := by rw [p.parse, parseT_nil]; simp
theorem marks_set (l : List Ob) (o : Ob) (n m : Nat) (hn : n = 3 + o.fs.length + m) :
    ((false :: msOf l) ++ List.replicate n false).set (posOf l) true = (false :: msOf (l ++ [o])) ++ List.replicate m false := by
  subst hn
  have hp : posOf l = (false :: msOf l).length := by simp [posOf, msOf_len]; omega
  rw [hp, List.set_append_right _ _ (Nat.le_refl _), Nat.sub_self, show 3 + o.fs.length + m = (2 + o.fs.length + m) + 1 by omega, List.replicate_succ, List.set_cons_zero, msOf_app, msOf_cons]
  have e : List.replicate (2 + o.fs.length + m) false = List.replicate (2 + o.fs.length) false ++ List.replicate m false := by rw [List.replicate_append_replicate]
  rw [e]
  simp [Ob.ms, msOf]

set_option maxRecDepth 100000 in
set_option maxHeartbeats 2000000 in
theorem laid_any {w : World} {p : HP} {h : HM} (H : HAt w p h) (f : h.Fit) (hs : Spares w) (hfar : Far p) (hst : h.starts = List.replicate h.words.length false) :
    Calls Tryd.prog 77 #[ptr p.g] w (LaidP p h w) := by
  have c0 := H.c0
  have q0 : w.cell? ⟨p.gw, 0, none⟩ = some (.int .u32 (h.words.getD 0 0 : Nat)) := H.word f.one
  have hone := f.one
  have hcap : h.words.length ≤ p.cw := by have := H.2.1; obtain ⟨_, _, h1, _⟩ := this; simpa [u32s] using h1
  have hcm : p.cw ≤ 9223372036854775807 := by have := H.2.1; obtain ⟨_, _, _, h1, _⟩ := this; unfold maxLen at h1; exact h1
  have hhi := f.hi
  have hroom := f.room
  have HF := Lib.hid f
  have HS := Lib.hid hs
  have HFAR := Lib.hid hfar
  have har : ∀ (a : Addr) (c : Nat) (w : World), (Instr.arrayAt 143 (.slice (some a) 3 c)).run Tryd.prog w = .ok (.pointer (some a)) w := fun a c w => by
    have ht : Tryd.prog.underlying 143 = some (.array 3 24) := Tryd.underlying143
    simp [Instr.arrayAt, run_underlying ht]
  unfold ptr
  by_cases h0 : h.words.getD 0 0 = 0
  · obtain ⟨r0, hr0⟩ : ∃ r0, h.words = 0 :: r0 := by
      cases hw : h.words with
      | nil => rw [hw] at hone; simp at hone
      | cons a r => rw [hw] at h0; simp at h0; exact ⟨r, by rw [h0]⟩
    rw [h0] at q0
    have HM0 := Lib.hid (show LaidMid p h w 1 w from ⟨Step.refl _ _, .inl ⟨[], r0, by rw [hr0]; exact Pre.start, rfl, by
      have e : (false :: msOf []) ++ List.replicate r0.length false = h.starts := by rw [hst, hr0]; simp [msOf, List.replicate_succ]
      rw [e]; exact H⟩⟩)
    have HH := Lib.hid H
    have HST := Lib.hid hst
    clear H f hs hfar hst hr0 h0
    go_enter Tryd.func77, Tryd.ntmps77
    go_wp2_with fail
    go_step3
    go_wp2_with fail
    go_step3
    go_wp2_with fail
    go_loopw [3, 4, 5] (fun i _ _ wr => ∃ k : Nat, i = .int .i64 k ∧ k ≤ 20000000 ∧ LaidMid p h w k wr) (fun i _ _ _ => h.words.length - (intOf i).toNat)
    case atStart => exact ⟨1, rfl, by omega, HM0.out⟩
    case round =>
      clear q0 c0
      obtain ⟨k, rfl, hk20, hst1, hmid⟩ := hrel
      rcases hmid with ⟨l, r, hp, rfl, Hr⟩ | ⟨hlong, hnone, st, hsl, Hr⟩
      · have c0 := Hr.c0
        have hlen := hp.len
        have h32 := HF.out.w32
        by_cases hr0 : r = []
        · subst hr0
          have HD := Lib.hid hp.done
          have HX := Lib.hid (show HAt wr p { h with starts := false :: msOf l } by
            have e : (false :: msOf l) ++ List.replicate ([] : List Nat).length false = false :: msOf l := by simp
            rw [e] at Hr; exact Hr)
          simp only [List.length_nil, Nat.add_zero] at hlen
          rw [← hlen] at *
          have hdec : decide (h.words.length < h.words.length) = false := by simp
          have hdec2 : ((h.words.length : Int) == (h.words.length : Int)) = true := by simp
          clear hp Hr h32
          go_wp2_with fail
          go_ret
          exact ⟨true, rfl, hst1, (fun e => by cases e), fun _ => ⟨l, HD.out, HX.out⟩⟩
        · by_cases hr3 : r.length < 3
          · have HN := Lib.hid (hp.none (parseT_short hr0 hr3))
            have hpos : 0 < r.length := List.length_pos_iff.2 hr0
            clear hp hr0 h32
            generalize posOf l = k at *
            generalize r.length = m at *
            have hdec : decide (k < h.words.length) = true := by simp; omega
            have hdec1 : ((h.words.length : Nat) : Int) < (k : Int) + 3 := by omega
            have hdec2 : ((k : Int) == (h.words.length : Int)) = false := by simp; omega
            clear Hr hlen
            go_wp2_with fail
            go_ret
            exact ⟨false, rfl, hst1, fun _ => HN.out, fun e => by cases e⟩
          · obtain ⟨a, b, c, r', rfl⟩ : ∃ a b c r', r = a :: b :: c :: r' := by
              match r, hr3 with
              | a :: b :: c :: r', _ => exact ⟨a, b, c, r', rfl⟩
              | [], h => simp at h
              | [_], h => simp at h
              | [_, _], h => simp at h
            have hm : ∀ x ∈ a :: b :: c :: r', x < 4294967296 := fun x hx => h32 x (by rw [hp.eq]; simp at hx ⊢; right; right; exact hx)
            have ba := hm a (by simp)
            have bb := hm b (by simp)
            have bc := hm c (by simp)
            have g0 := hp.get 0
            have g1 := hp.get 1
            have g2 := hp.get 2
            simp only [Nat.add_zero, List.getD_cons_zero, List.getD_cons_succ] at g0 g1 g2
            have q0 := Hr.word (i := posOf l) (by show posOf l < h.words.length; simp at hlen; omega)
            have q1 := Hr.word (i := posOf l + 1) (by show posOf l + 1 < h.words.length; simp at hlen; omega)
            have q2 := Hr.word (i := posOf l + 2) (by show posOf l + 2 < h.words.length; simp at hlen; omega)
            replace q0 : wr.cell? ⟨p.gw, posOf l, none⟩ = some (.int .u32 (a : Int)) := by rw [← g0]; exact q0
            replace q1 : wr.cell? ⟨p.gw, posOf l + 1, none⟩ = some (.int .u32 (b : Int)) := by rw [← g1]; exact q1
            replace q2 : wr.cell? ⟨p.gw, posOf l + 2, none⟩ = some (.int .u32 (c : Int)) := by rw [← g2]; exact q2
            clear g0 g1 g2 hr0 hr3
            have hgg : p.g < wr.heap.size := Hr.lt (.inl rfl)
            have hgw : p.gw < wr.heap.size := Hr.lt (.inr (.inl rfl))
            have hgs : p.gs < wr.heap.size := Hr.lt (.inr (.inr (.inl rfl)))
            have n1 : wr.heap.size ≠ p.gw := by omega
            have HSP := Lib.hid (hst1.spares HFAR.out HS.out)
            have hdec : decide (posOf l < h.words.length) = true := by simp at hlen ⊢; omega
            have hdec1 : (posOf l : Int) + 3 ≤ ((h.words.length : Nat) : Int) := by simp at hlen; omega
            cases hok : okhd a b c
            · have HN := Lib.hid (hp.none (parseT_bad hok))
              have HOK := Lib.hid hok
              clear hok hp hm h32
              generalize posOf l = k at *
              clear hlen
              go_wp2_with fail
              refine (unpack_bad a b c ba bb bc _ HSP.out HOK.out).mono ?_
              rintro e w1 ⟨rfl, hb1⟩
              have c1 := (Hr.below hb1).c0
              have hsz := hb1.size
              have hgg1 : p.g < w1.heap.size := by omega
              have s1 := (hst1.below' hb1).alloc (.cells #[.int .i64 0, .int .i64 0, .int .i64 0, .int .u32 0, .int .u32 0] 56)
              have hdec2 : ((k : Int) == (h.words.length : Int)) = false := by simp at hdec ⊢; omega
              clear q0 q1 q2 c0 Hr
              go_wp2_with fail
              go_ret
              exact ⟨false, rfl, s1, fun _ => HN.out, fun e => by cases e⟩
            · have hfit := unhd_fit a b c bb bc
              have HOK := Lib.hid hok
              have HSL := Lib.hid (show (false :: msOf l ++ List.replicate (a :: b :: c :: r').length false).length = h.words.length by
                rw [List.length_append, List.length_cons, msOf_len, List.length_replicate, hlen]; unfold posOf; omega)
              by_cases hsz : (unhd a b c).size ≤ r'.length
              · have HP2 := Lib.hid (hp.next h32 hok hsz)
                have HPOS := Lib.hid (posOf_snoc l ⟨unhd a b c, r'.take (unhd a b c).size⟩)
                have HMS := Lib.hid (marks_set l ⟨unhd a b c, r'.take (unhd a b c).size⟩ (a :: b :: c :: r').length (r'.drop (unhd a b c).size).length (by simp; omega))
                have HTL := Lib.hid (show (r'.take (unhd a b c).size).length = (unhd a b c).size by simp; omega)
                have HLEN := Lib.hid (show h.words.length = posOf l + (r'.length + 3) by simpa using hlen)
                clear hlen hm h32 hp
                generalize posOf l = k at *
                have HU := Lib.hid (unpack_any a b c ba bb bc wr HSP.out HOK.out)
                have hxv : (unhd a b c).val = .agg #[.int .i64 (unhd a b c).size, .int .i64 (unhd a b c).fmt, .int .i64 (unhd a b c).spare, .int .u32 (unhd a b c).cls, .int .u32 (unhd a b c).ser] := rfl
                rw [hxv] at HU
                clear hxv hok
                generalize unhd a b c = x at *
                obtain ⟨f1, f2, f3, f4, f5⟩ := hfit
                have hkl : k < h.words.length := by simpa using hdec
                go_wp2_with fail
                refine HU.out.mono ?_
                rintro e w1 ⟨rfl, hb1⟩
                have hb2 := hb1.alloc hb1.size (.cells #[.int .i64 x.size, .int .i64 x.fmt, .int .i64 x.spare, .int .u32 x.cls, .int .u32 x.ser] 56)
                have BH := Blk.new w1 56 #[.int .i64 x.size, .int .i64 x.fmt, .int .i64 x.spare, .int .u32 x.cls, .int .u32 x.ser]
                have Hr2 := Hr.below hb2
                have c1 := Hr2.c1
                have sl : (false :: msOf l ++ List.replicate (a :: b :: c :: r').length false).length = h.words.length := HSL.out
                simp only [sl] at c1
                have m1 := Hr2.mark (i := k) (by show k < (false :: msOf l ++ List.replicate (a :: b :: c :: r').length false).length; rw [sl]; exact hkl)
                have z1 := Hr2.2.2.1.frozen k
                have HS2 := Lib.hid (Hr2.setMark k true)
                have ST2 := Lib.hid ((hst1.below' hb2).setCell (a := ⟨p.gs, k, none⟩) (.inl (.inr (.inr (.inl rfl)))) (.bool true))
                have hne : p.gs ≠ w1.heap.size := by have := hb1.size; omega
                obtain ⟨d0, -, -, -, -⟩ := (BH.far (p := ⟨p.gs, k, none⟩) (fun e => hne e.symm) (.bool true)).cells5
                clear q0 q1 q2 c0 sl hb1 BH
                dsimp only at m1
                generalize (false :: msOf l ++ List.replicate (a :: b :: c :: r').length false).getD k false = mb at m1
                have hk4 : (k : Int) < ((h.words.length : Nat) : Int) := by omega
                go_wp2_with fail
                go_roundw
                case rel =>
                  have hl := HLEN.out
                  refine ⟨k + (3 + x.size), by go_num, by omega, ST2.out, .inl ⟨l ++ [⟨x, r'.take x.size⟩], r'.drop x.size, HP2.out, by rw [HPOS.out, HTL.out]; omega, ?_⟩⟩
                  have e := HS2.out
                  rw [HMS.out] at e
                  exact e
                case measure => simp [intOf]; omega
              · have HN := Lib.hid (hp.none (parseT_long (by omega)))
                have HLEN := Lib.hid (show h.words.length = posOf l + (r'.length + 3) by simpa using hlen)
                clear hlen hm h32 hp
                generalize posOf l = k at *
                have HU := Lib.hid (unpack_any a b c ba bb bc wr HSP.out HOK.out)
                have hxv : (unhd a b c).val = .agg #[.int .i64 (unhd a b c).size, .int .i64 (unhd a b c).fmt, .int .i64 (unhd a b c).spare, .int .u32 (unhd a b c).cls, .int .u32 (unhd a b c).ser] := rfl
                rw [hxv] at HU
                clear hxv hok
                generalize unhd a b c = x at *
                obtain ⟨f1, f2, f3, f4, f5⟩ := hfit
                have hkl : k < h.words.length := by simpa using hdec
                go_wp2_with fail
                refine HU.out.mono ?_
                rintro e w1 ⟨rfl, hb1⟩
                have hb2 := hb1.alloc hb1.size (.cells #[.int .i64 x.size, .int .i64 x.fmt, .int .i64 x.spare, .int .u32 x.cls, .int .u32 x.ser] 56)
                have BH := Blk.new w1 56 #[.int .i64 x.size, .int .i64 x.fmt, .int .i64 x.spare, .int .u32 x.cls, .int .u32 x.ser]
                have Hr2 := Hr.below hb2
                have c1 := Hr2.c1
                have sl : (false :: msOf l ++ List.replicate (a :: b :: c :: r').length false).length = h.words.length := HSL.out
                simp only [sl] at c1
                have m1 := Hr2.mark (i := k) (by show k < (false :: msOf l ++ List.replicate (a :: b :: c :: r').length false).length; rw [sl]; exact hkl)
                have z1 := Hr2.2.2.1.frozen k
                have HS2 := Lib.hid (Hr2.setMark k true)
                have ST2 := Lib.hid ((hst1.below' hb2).setCell (a := ⟨p.gs, k, none⟩) (.inl (.inr (.inr (.inl rfl)))) (.bool true))
                have hne : p.gs ≠ w1.heap.size := by have := hb1.size; omega
                obtain ⟨d0, -, -, -, -⟩ := (BH.far (p := ⟨p.gs, k, none⟩) (fun e => hne e.symm) (.bool true)).cells5
                clear q0 q1 q2 c0 sl hb1 BH
                dsimp only at m1
                generalize (false :: msOf l ++ List.replicate (a :: b :: c :: r').length false).getD k false = mb at m1
                have hk4 : (k : Int) < ((h.words.length : Nat) : Int) := by omega
                go_wp2_with fail
                go_roundw
                case rel =>
                  have hl := HLEN.out
                  refine ⟨k + (3 + x.size), by go_num, by omega, ST2.out, .inr ⟨by omega, HN.out, _, ?_, HS2.out⟩⟩
                  rw [List.length_set, HSL.out, HF.out.marks]
                case measure => simp [intOf]; omega
      · have c0 := Hr.c0
        have hdec : decide (k < h.words.length) = false := by simp; omega
        have hdec2 : ((k : Int) == (h.words.length : Int)) = false := by simp; omega
        have HN := Lib.hid hnone
        clear hnone
        go_wp2_with fail
        go_ret
        exact ⟨false, rfl, hst1, fun _ => HN.out, fun e => by cases e⟩
  · have hb : ((h.words.getD 0 0 : Int) != 0) = true := by rw [bne_iff_ne]; omega
    have HN := Lib.hid (show parseW h.words = none by
      unfold parseW
      split
      · rename_i hw; rw [hw] at h0; simp at h0
      · rfl)
    generalize h.words.getD 0 0 = x at *
    clear h0
    go_enter Tryd.func77, Tryd.ntmps77
    go_wp2_with fail
    go_step3
    go_wp2_with fail
    rw [Exit.noGoto_ret]
    go_ret
    exact ⟨false, rfl, Step.refl _ _, fun _ => HN.out, fun e => by cases e⟩
end Go.Proofs.YtblekggklimpeaaDoor
