/- Deeds of a script on plain data. -/
import Derived.Test.YtkpjkbkglnabiaaDoorLaid
set_option linter.unusedVariables false
namespace Go.Proofs.YtkpjkbkglnabiaaDoor
open Go.RowKit


/-- A deed of a script. -/
structure Dd where
  k : Int
  o : Nat
  v : Nat
  f : Int
  i : Int
  n : Int
  w : Nat
  b : List Nat
structure Dd.Fit (d : Dd) : Prop where
  o : d.o < 4294967296
  v : d.v < 4294967296
  w : d.w < 4294967296
  b : ∀ x ∈ d.b, x < 256
def Dd.what (d : Dd) : Int := d.k.tmod 14
/-- What a deed leaves; the object that it makes; the error that it answers. -/
def HM.actH (h : HM) (d : Dd) : HM :=
  if d.what = 0 then h.AllocH d.v d.f d.n else if d.what = 1 then h.makeH d.v d.b else if d.what = 3 then h.putH d.o d.i d.v else if d.what = 5 then h.setWordH d.o d.i d.w
  else if d.what = 7 then h.setByteH d.o d.i (d.w % 256) else if d.what = 9 then h.setClassH d.o d.v else if d.what = 10 then h.setRootH d.i d.v else h
def HM.actO (h : HM) (d : Dd) : Nat :=
  if d.what = 0 then (if h.AllocE d.v d.f d.n = 0 then 2 * h.words.length else 0) else if d.what = 1 then (if h.makeE d.v d.b = 0 then 2 * h.words.length else 0) else 0

/-- Behind a deed: a script's heap again; what was made is the last object, else there are as many words as before. -/
theorem HM.Scr.act {h : HM} {l : List Ob} (s : h.Scr l) (d : Dd) (fd : d.Fit) : ∃ l', (h.actH d).Scr l' ∧ h.Le (h.actH d) ∧ (h.actH d).size = h.size ∧
    ((h.actO d = 0 ∧ (h.actH d).words.length = h.words.length ∧ (h.actH d).last = h.last ∧ (h.actH d).starts = h.starts) ∨
     (h.actO d = 2 * h.words.length ∧ ∃ b, l' = l ++ [b] ∧ b.x.ser = h.last + 1 ∧ (h.actH d).words = h.words ++ b.ws ∧ (h.actH d).roots = h.roots ∧ (h.actH d).last = h.last + 1)) := by
  have same : ∀ (h' : HM) (l' : List Ob), h'.Good l' → l'.map (·.x.ser) = l.map (·.x.ser) → h'.words.length = h.words.length → h'.last = h.last → h'.starts = h.starts → h'.size = h.size →
      ∃ l', h'.Scr l' ∧ h.Le h' ∧ h'.size = h.size ∧
    (((0 : Nat) = 0 ∧ h'.words.length = h.words.length ∧ h'.last = h.last ∧ h'.starts = h.starts) ∨
     (0 = 2 * h.words.length ∧ ∃ b, l' = l ++ [b] ∧ b.x.ser = h.last + 1 ∧ h'.words = h.words ++ b.ws ∧ h'.roots = h.roots ∧ h'.last = h.last + 1)) := by
    intro h' l' G e1 e2 e3 e4 e5
    exact ⟨l', ⟨G, by rw [e1, e3]; exact s.sers⟩, HM.le_of_starts (x := []) (by rw [e4, List.append_nil]), e5, .inl ⟨rfl, e2, e3, e4⟩⟩
  unfold HM.actH HM.actO
  by_cases h0 : d.what = 0
  · rw [if_pos h0, if_pos h0]
    by_cases he : h.AllocE d.v d.f d.n = 0
    · rw [if_pos he, HM.AllocH_eq, if_pos he]
      have hE := he
      unfold HM.AllocE at he
      split at he
      · rename_i hok
        obtain ⟨hx, hm⟩ := mkHd_ok fd.v hok
        have G := s.good.allocH (mkHd d.v d.f d.n) hx hm rfl he
        unfold HM.allocH at G
        rw [if_pos he] at G
        exact ⟨_, s.snoc G rfl rfl, HM.le_of_starts (x := true :: List.replicate (2 + (mkHd d.v d.f d.n).size) false) rfl, rfl, .inr ⟨rfl, _, rfl, rfl, by simp [HM.pushH, Ob.ws, Hd.w0], rfl, rfl⟩⟩
      · omega
    · rw [if_neg he, HM.AllocH_eq, if_neg he]
      exact same h l s.good rfl rfl rfl rfl rfl
  rw [if_neg h0, if_neg h0]
  by_cases h1 : d.what = 1
  · rw [if_pos h1, if_pos h1]
    by_cases he : h.makeE d.v d.b = 0
    · have G := s.good.makeH d.v d.b fd.v fd.b he
      rw [if_pos he]
      unfold HM.makeH at G ⊢
      rw [if_pos he] at G ⊢
      exact ⟨_, s.snoc G rfl rfl, HM.le_of_starts (x := true :: List.replicate (2 + (makeX d.v d.b).size) false) rfl, rfl, .inr ⟨rfl, _, rfl, rfl, by simp [HM.pushH, Ob.ws, Hd.w0], rfl, rfl⟩⟩
    · rw [if_neg he]
      unfold HM.makeH
      rw [if_neg he]
      exact same h l s.good rfl rfl rfl rfl rfl
  rw [if_neg h1, if_neg h1]
  by_cases h3 : d.what = 3
  · rw [if_pos h3]
    obtain ⟨l', G, e⟩ := s.good.putH d.o d.i d.v fd.v
    refine same _ l' G e ?_ ?_ ?_ ?_ <;> unfold HM.putH <;> split <;> simp [HM.setF]
  rw [if_neg h3]
  by_cases h5 : d.what = 5
  · rw [if_pos h5]
    obtain ⟨l', G, e⟩ := s.good.setWordH d.o d.i d.w fd.w
    refine same _ l' G e ?_ ?_ ?_ ?_ <;> unfold HM.setWordH <;> split <;> simp [HM.setF]
  rw [if_neg h5]
  by_cases h7 : d.what = 7
  · rw [if_pos h7]
    obtain ⟨l', G, e⟩ := s.good.setByteH d.o d.i (d.w % 256) (Nat.mod_lt _ (by omega))
    refine same _ l' G e ?_ ?_ ?_ ?_ <;> unfold HM.setByteH <;> split <;> simp [HM.setF]
  rw [if_neg h7]
  by_cases h9 : d.what = 9
  · rw [if_pos h9]
    obtain ⟨l', G, e⟩ := s.good.setClassH d.o d.v fd.v
    refine same _ l' G e ?_ ?_ ?_ ?_ <;> unfold HM.setClassH <;> split <;> simp
  rw [if_neg h9]
  by_cases h10 : d.what = 10
  · rw [if_pos h10]
    have G := s.good.setRootH d.i d.v fd.v
    refine same _ l G rfl ?_ ?_ ?_ ?_ <;> unfold HM.setRootH <;> split <;> simp
  rw [if_neg h10]
  exact same h l s.good rfl rfl rfl rfl rfl

/-- A script of deeds: the heap behind it, the objects made. -/
def HM.runH (h : HM) (ds : List Dd) : HM := ds.foldl HM.actH h
def HM.runM (h : HM) : List Dd → List Nat
  | [] => []
  | d :: ds => (if h.actO d = 0 then [] else [h.actO d]) ++ (h.actH d).runM ds
theorem HM.runH_snoc (h : HM) (ds : List Dd) (d : Dd) : h.runH (ds ++ [d]) = (h.runH ds).actH d := by simp [HM.runH]
theorem HM.runM_snoc (h : HM) (ds : List Dd) (d : Dd) : h.runM (ds ++ [d]) = h.runM ds ++ (if (h.runH ds).actO d = 0 then [] else [(h.runH ds).actO d]) := by
  induction ds generalizing h with
  | nil =>
    simp only [List.nil_append, HM.runM, HM.runH, List.foldl_nil, List.append_nil]
    rfl
  | cons e ds ih => simp only [List.cons_append, HM.runM, ih, List.append_assoc]; rfl
theorem HM.Scr.run {h : HM} {l : List Ob} (s : h.Scr l) (ds : List Dd) (fd : ∀ d ∈ ds, d.Fit) :
    ∃ l', (h.runH ds).Scr l' ∧ h.Le (h.runH ds) ∧ (h.runH ds).size = h.size ∧ l.length + (h.runM ds).length = l'.length ∧ (∀ o ∈ h.runM ds, (h.runH ds).isB o = true) := by
  induction ds generalizing h l with
  | nil => exact ⟨l, s, fun _ h => h, rfl, rfl, fun _ h => by cases h⟩
  | cons d ds ih =>
    obtain ⟨l1, s1, k1, z1, hd⟩ := s.act d (fd d (by simp))
    obtain ⟨l2, s2, k2, z2, hn, hm⟩ := ih s1 (fun d hd => fd d (List.mem_cons_of_mem _ hd))
    refine ⟨l2, s2, fun o ho => k2 o (k1 o ho), z2.trans z1, ?_, ?_⟩
    · rcases hd with ⟨e0, _, e1, _⟩ | ⟨e0, b, rfl, _, _, _, _⟩
      · have := s.len; have := s1.len
        simp only [HM.runM, e0, if_true, List.nil_append]
        omega
      · have hw := s.good.fit.one
        simp only [HM.runM, List.length_append]
        rw [if_neg (by omega)]
        simp at hn ⊢
        omega
    · intro o ho
      unfold HM.runM at ho
      rw [List.mem_append] at ho
      rcases ho with ho | ho
      · split at ho
        · cases ho
        · rename_i hne
          simp only [List.mem_cons, List.not_mem_nil, or_false] at ho
          subst ho
          rcases hd with ⟨e0, _⟩ | ⟨e0, b, rfl, _, hw, _, _⟩
          · exact absurd e0 hne
          · apply k2
            rw [e0]
            refine (s1.good.laid.isB_iff _).2 ⟨l, b, [], rfl, ?_⟩
            rw [s.good.laid.words]
            simp [posOf]; omega
      · exact hm o ho
end Go.Proofs.YtkpjkbkglnabiaaDoor
