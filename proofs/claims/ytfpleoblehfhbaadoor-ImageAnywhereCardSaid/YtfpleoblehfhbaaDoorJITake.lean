/- What an image's bytes answer: the error, or the heap. -/
/- Load, Info, Migrate: the program's. -/
/- awake of chapter 14: a small heap comes back. -/
/- ImageBack, walked: there and back, by both versions; and the bytes again. -/
/- ImageAnywhere, walked: wherever it fits it is the same. Printed by wip/src/XIAnyL.py. -/
import Derived.Test.YtfpleoblehfhbaaDoorJIParse
import Derived.Test.YtfpleoblehfhbaaDoorJLive
import Derived.Test.YtfpleoblehfhbaaDoorJISave
import Derived.Test.YtfpleoblehfhbaaDoorJIVal
import Derived.Lib.SlBytesConst
import Derived.IntWalk
import Derived.Deep.RegionHeld3
set_option linter.unusedVariables false
set_option linter.unusedSimpArgs false
set_option linter.unusedSectionVars false
namespace Go.Proofs.YtfpleoblehfhbaaDoor
open Go.RowKit
open Classical in
/-- The error that a heap of this size answers to these bytes; 0: none. -/
noncomputable def takeE (b : List Nat) (size : Nat) : Nat :=
  match takeR b with
  | .error E => E
  | .ok r => if size < r.words.length then 4 else if r.wrong = true ∨ ¬ LoadOk size r.words r.roots r.last then 145 else 0
/-- The heap. -/
def takeH (b : List Nat) (size : Nat) : HM :=
  match takeR b with
  | .error _ => HM.new 64
  | .ok r => HM.ofWords size r.words r.roots r.last
theorem takeR_err {b : List Nat} {E : Nat} (h : takeR b = .error E) : E ≠ 0 := by
  unfold takeR at h
  split at h
  · cases h; decide
  · split at h
    · cases h; decide
    · split at h
      · exact oldM_err h
      · split at h
        · split at h
          · rename_i e he
            cases h
            exact newM_err he
          · cases h
        · cases h; decide
theorem takeR_errs {b : List Nat} {E size : Nat} (h : takeR b = .error E) : takeE b size = E := by
  unfold takeE
  rw [h]
/-- What parse answers, in two. -/
def TakP (b : List Nat) (size : Nat) (w : World) (e : Ending) (w' : World) : Prop :=
  Below w.heap.size w w' ∧ ((takeE b size ≠ 0 ∧ e = .returned (.tuple #[rdV 0 0 (.slice none 0 0) (.slice none 0 0), .pointer none, .int .i64 (takeE b size : Nat)])) ∨
    (takeE b size = 0 ∧ ∃ (r : Rd) (l : List Ob) (p : HP) (A1 A2 : Option Addr) (n1 c1 n2 c2 : Nat), takeR b = .ok r ∧ (takeH b size).Good l ∧
      e = .returned (.tuple #[.agg #[.int .i64 r.ver, .int .i64 l.length, .int .u32 r.last, .slice A1 n1 c1, .slice A2 n2 c2], ptr p.g, .int .i64 0]) ∧ HAt w' p (takeH b size) ∧ ∀ k, p.has k → w.heap.size ≤ k))
open Classical in
theorem ParP.take {b : List Nat} {size : Nat} {w w' : World} {e : Ending} (h8 : ∀ x ∈ b, x < 256) (h1 : 64 ≤ size) (h2 : size ≤ 1048576) (h : ParP b size w e w') : TakP b size w e w' := by
  unfold ParP at h
  cases ht : takeR b with
  | error E =>
    rw [ht] at h
    have e1 : takeE b size = E := takeR_errs ht
    have := takeR_err ht
    exact ⟨h.1, .inl ⟨by rw [e1]; exact this, by rw [e1]; exact h.2⟩⟩
  | ok r =>
    rw [ht] at h
    have F := take_fit ht h8
    obtain ⟨h3, h4, h5⟩ := h
    have e0 : takeE b size = if size < r.words.length then 4 else if r.wrong = true ∨ ¬ LoadOk size r.words r.roots r.last then 145 else 0 := by unfold takeE; rw [ht]
    have eH : takeH b size = HM.ofWords size r.words r.roots r.last := by unfold takeH; rw [ht]
    by_cases hs : size < r.words.length
    · rw [if_pos hs] at e0
      obtain ⟨k1, k2⟩ := h3 hs
      exact ⟨k1, .inl ⟨by rw [e0]; decide, by rw [e0]; exact k2⟩⟩
    · rw [if_neg hs] at e0
      by_cases hw : r.wrong = true ∨ ¬ LoadOk size r.words r.roots r.last
      · rw [if_pos hw] at e0
        obtain ⟨k1, k2⟩ := h4 hs hw
        exact ⟨k1, .inl ⟨by rw [e0]; decide, by rw [e0]; exact k2⟩⟩
      · rw [if_neg hw] at e0
        have hw1 : r.wrong = false := by
          cases hr : r.wrong with
          | false => rfl
          | true => exact absurd (.inl hr) hw
        have hw2 : LoadOk size r.words r.roots r.last := Classical.byContradiction fun hn => hw (.inr hn)
        obtain ⟨l, hl, hso⟩ := hw2
        obtain ⟨p, A1, A2, n1, c1, n2, c2, k1, k2, k3, k4⟩ := h5 hs hw1 l hl hso
        refine ⟨k4, .inr ⟨e0, r, l, p, A1, A2, n1, c1, n2, c2, ht, ?_, k1, by rw [eH]; exact k2, k3⟩⟩
        rw [eH]
        exact HM.ofWords_good h1 h2 F.w32 F.r32 F.roots F.last (by omega) hl hso
theorem Spares.far {w : World} (hs : Spares w) : ∀ k, w.heap.size ≤ k → k ≠ 0 ∧ k ≠ 0 := fun k hk => by
  have := hs.lt
  exact ⟨by omega, by omega⟩
theorem take_any {w : World} {n c : Nat} {A : Option Addr} {bs : List Nat} {size : Nat} (hs : Spares w) (hr : Reads w w.heap.size 1 A n (u8c bs)) (hA : 0 < n → ∃ g0 o0, A = some ⟨g0, o0, none⟩) (hc : n ≤ c) (hn : n ≤ 9223372036854775807) (h8 : ∀ x ∈ bs, x < 256) (h64 : 64 ≤ size) (hsize : size ≤ 1048576) :
    Calls Tryd.prog 34 #[.slice A n c, .int .i64 size] w (TakP bs size w) := by
  by_cases h0 : 0 < n
  · obtain ⟨g0, o0, hA⟩ := hA h0
    exact (parse_any hs hs.far hr (fun _ => hA) hc hn h8 h64 hsize).mono fun _ _ H => H.take h8 h64 hsize
  · exact (parse_any (g0 := 0) (o0 := 0) hs hs.far hr (fun h => absurd h h0) hc hn h8 h64 hsize).mono fun _ _ H => H.take h8 h64 hsize
end Go.Proofs.YtfpleoblehfhbaaDoor

namespace Go.Proofs.YtfpleoblehfhbaaDoor
open Go.RowKit
attribute [local go_sem] Oper.semAt_some
/-- The error of Load. -/
noncomputable def ildE (b : List Nat) (size : Int) : Nat := if size < 64 ∨ 1048576 < size then 1 else takeE b size.toNat
/-- What Load answers. -/
def ILoadP (b : List Nat) (size : Int) (w : World) (e : Ending) (w' : World) : Prop :=
  Below w.heap.size w w' ∧ ((ildE b size ≠ 0 ∧ e = .returned (.tuple #[.pointer none, .int .i64 (ildE b size : Nat)])) ∨
    (ildE b size = 0 ∧ ∃ (p : HP) (l : List Ob), e = .returned (.tuple #[ptr p.g, .int .i64 0]) ∧ (takeH b size.toNat).Good l ∧ HAt w' p (takeH b size.toNat) ∧ ∀ k, p.has k → w.heap.size ≤ k))
set_option maxRecDepth 100000 in
set_option maxHeartbeats 4000000 in
theorem iload_any {w : World} {n c : Nat} {A : Option Addr} {bs : List Nat} (size : Int) (hs : Spares w) (hr : Reads w w.heap.size 1 A n (u8c bs)) (hA : 0 < n → ∃ g0 o0, A = some ⟨g0, o0, none⟩) (hc : n ≤ c) (hn : n ≤ 9223372036854775807) (h8 : ∀ x ∈ bs, x < 256) :
    Calls Tryd.prog 9 #[.slice A n c, .int .i64 size] w (ILoadP bs size w) := by
  by_cases hsz : size < 64 ∨ 1048576 < size
  · have HF := Lib.hid (show ildE bs size = 1 from if_pos hsz)
    by_cases h0 : size < 64
    · have hd1 : decide (size < 64) = true := by simpa using h0
      clear hsz h0 hs hr hA hc hn h8
      go_enter Tryd.func9, Tryd.ntmps9
      go_wp2_with fail
      go_ret2
      exact ⟨Below.refl _ _, .inl ⟨by rw [HF.out]; decide, by rw [HF.out]; rfl⟩⟩
    · have hd1 : decide (size < 64) = false := by simpa using h0
      have hd2 : 1048576 < size := by omega
      clear hsz h0 hs hr hA hc hn h8
      go_enter Tryd.func9, Tryd.ntmps9
      go_wp2_with fail
      go_ret2
      exact ⟨Below.refl _ _, .inl ⟨by rw [HF.out]; decide, by rw [HF.out]; rfl⟩⟩
  · obtain ⟨s, hs'⟩ := Int.eq_ofNat_of_zero_le (show 0 ≤ size by omega)
    subst hs'
    have h1 : 64 ≤ s := by omega
    have h2 : s ≤ 1048576 := by omega
    have HF := Lib.hid (show ildE bs (s : Int) = takeE bs s from (if_neg hsz).trans (by rw [Int.toNat_natCast]))
    have HT := Lib.hid (take_any hs hr hA hc hn h8 h1 h2)
    have hd1 : decide ((s : Int) < 64) = false := by simp; omega
    have hd2 : decide ((s : Int) > 1048576) = false := by simp; omega
    clear hsz hs hr hA hc hn h8 h1 h2
    unfold ILoadP
    rw [Int.toNat_natCast, HF.out]
    go_enter Tryd.func9, Tryd.ntmps9
    go_wp2_with fail
    refine HT.out.mono ?_
    rintro e w1 ⟨hb1, ⟨h3, rfl⟩ | ⟨h3, r, l, p, A1, A2, n1, c1, n2, c2, hr, hG, rfl, hat, hnew⟩⟩
    · have HB := Lib.hid (hb1.alloc hb1.size (.cells #[.int .i64 0, .int .i64 0, .int .u32 0, .slice none 0 0, .slice none 0 0] 68))
      have H3 := Lib.hid h3
      clear hb1 h3 HT HF
      unfold rdV
      go_wp2_with fail
      go_ret2
      exact ⟨HB.out, .inl ⟨H3.out, rfl⟩⟩
    · have HB1 := Lib.hid hb1
      have HBX := Lib.hid ((Below.refl w1.heap.size w1).alloc (Nat.le_refl _) (.cells #[.int .i64 r.ver, .int .i64 l.length, .int .u32 r.last, .slice A1 n1 c1, .slice A2 n2 c2] 68))
      have HG := Lib.hid hG
      have HAT := Lib.hid hat
      have HNW := Lib.hid hnew
      have H3 := Lib.hid h3
      clear hb1 hG hat hnew h3 HF HT
      unfold ptr
      go_wp2_with fail
      go_ret2
      exact ⟨below_top HB1.out HBX.out, .inr ⟨H3.out, p, l, rfl, HG.out, HAT.out.below HBX.out, HNW.out⟩⟩
end Go.Proofs.YtfpleoblehfhbaaDoor

namespace Go.Proofs.YtfpleoblehfhbaaDoor
open Go.RowKit
theorem own_sliceA {w : World} {base : Nat} {e : TypeId} {v : Value} {n : Nat} {xs : List Value} (h : w.ownsRow base e 1 v n xs) : ∃ A c, v = .slice A n c ∧ Reads w w.heap.size 1 A n xs ∧ n ≤ c ∧ (0 < n → ∃ g0 o0, A = some ⟨g0, o0, none⟩) := by
  have h' := h
  obtain ⟨A, c, rfl, hr⟩ := own_sliceI h'
  rcases h.2 with ⟨h1, h2⟩ | ⟨g, cap, cur, h1, h2, h3, h4, h5⟩
  · subst h2
    exact ⟨A, c, rfl, hr, Nat.zero_le _, fun hh => by omega⟩
  · injection h1 with h6 h7 h8
    subst h6 h8
    exact ⟨_, c, rfl, hr, h4, fun _ => ⟨g, 0, rfl⟩⟩
theorem flat_small : ∀ l : List Nat, (∀ x ∈ l, x < 128) → (l.flatMap cnt7).length = l.length
  | [], _ => rfl
  | a :: l, h => by
    rw [List.flatMap_cons, List.length_append, flat_small l (fun x hx => h x (by simp [hx])), cnt7_small (h a (by simp))]
    simp; omega
section
variable {h : HM} {l : List Ob}
/-- What an image of a good heap is to a heap of a size. -/
theorem takeE_of {bs : List Nat} {r : Rd} {size : Nat} (G : h.Good l) (ht : takeR bs = .ok r) (h1 : r.words = h.words) (h2 : r.roots = h.roots) (h3 : r.last = h.last) (h4 : r.wrong = false) (hs : h.words.length ≤ size) :
    takeE bs size = 0 ∧ takeH bs size = { h with size := size } := by
  have hp := G.ofWords
  have e : HM.ofWords size h.words h.roots h.last = { h with size := size } := by
    have := hp.1
    unfold HM.ofWords at this ⊢
    rw [hp.2] at this ⊢
    have h5 := congrArg HM.starts this
    simp only at h5 ⊢
    rw [h5]
  refine ⟨?_, ?_⟩
  · unfold takeE
    rw [ht]
    simp only
    rw [h1, h2, h3, h4, if_neg (by omega), if_neg]
    rintro (hh | hh)
    · cases hh
    · refine hh ⟨l, hp.2, ?_⟩
      rw [e]
      exact ⟨G.sound.cls, G.sound.flds, G.sound.spare, G.sound.sers, G.sound.nodup, G.sound.roots⟩
  · unfold takeH
    rw [ht]
    simp only
    rw [h1, h2, h3, e]
theorem takeE_small {bs : List Nat} {r : Rd} {size : Nat} (ht : takeR bs = .ok r) (h1 : r.words = h.words) (hs : size < h.words.length) : takeE bs size = 4 := by
  unfold takeE
  rw [ht]
  simp only
  rw [h1, if_pos hs]
theorem secI_byte {tag : Nat} {p : List Nat} (ht : tag < 256) (hp : ∀ x ∈ p, x < 256) : ∀ x ∈ secI tag p, x < 256 := by
  intro x hx
  unfold secI at hx
  simp only [List.mem_append, List.mem_cons, List.not_mem_nil, or_false] at hx
  rcases hx with rfl | hx | hx | hx
  · exact ht
  · exact cnt7_byte _ x hx
  · exact hp x hx
  · exact four4_byte _ x hx
theorem newI_byte (G : h.Good l) : ∀ x ∈ h.newI l, x < 256 := by
  obtain ⟨h1, h2, h3⟩ := pay_bytes G
  intro x hx
  unfold HM.newI at hx
  simp only [List.mem_append] at hx
  rcases hx with hx | hx | hx | hx | hx
  · simp only [List.mem_cons, List.not_mem_nil, or_false] at hx
    omega
  · exact secI_byte (by decide) h1 x hx
  · exact secI_byte (by decide) h2 x hx
  · exact secI_byte (by decide) h3 x hx
  · exact secI_byte (p := []) (by decide) (fun y hy => by cases hy) x hx
theorem oldI_byte (h : HM) : ∀ x ∈ h.oldI, x < 256 := by
  intro x hx
  unfold HM.oldI at hx
  rcases List.mem_append.1 hx with hx | hx
  · exact oldB_byte h x hx
  · exact four4_byte _ x hx
/-- What Load answers to an image of a good heap that fits. -/
def BackP (h : HM) (w : World) (e : Ending) (w' : World) : Prop := ∃ p : HP, e = .returned (.tuple #[ptr p.g, .int .i64 0]) ∧ Live w w' p p.g h
theorem iload_back {w : World} {n c : Nat} {A : Option Addr} {bs : List Nat} {r : Rd} (E : Env w) (G : h.Good l) (ht : takeR bs = .ok r) (h1 : r.words = h.words) (h2 : r.roots = h.roots) (h3 : r.last = h.last) (h4 : r.wrong = false) (size : Int) (hs1 : 64 ≤ size) (hs2 : size ≤ 1048576)
    (hs : h.words.length ≤ size.toNat) (hr : Reads w w.heap.size 1 A n (u8c bs)) (hA : 0 < n → ∃ g0 o0, A = some ⟨g0, o0, none⟩) (hc : n ≤ c) (hn : n ≤ 9223372036854775807) (h8 : ∀ x ∈ bs, x < 256) :
    Calls Tryd.prog 9 #[.slice A n c, .int .i64 size] w (BackP { h with size := size.toNat } w) :=
  (iload_any (c := c) size E.spares hr hA hc hn h8).mono fun e w' ⟨hb, hh⟩ => by
    obtain ⟨e1, e2⟩ := takeE_of G ht h1 h2 h3 h4 hs
    have e3 : ildE bs size = 0 := (if_neg (by omega)).trans e1
    rcases hh with ⟨h5, _⟩ | ⟨_, p, l', rfl, h6, h7, h8⟩
    · exact absurd e3 h5
    · rw [e2] at h6 h7
      exact ⟨p, rfl, h7, rfl, ⟨l', h6⟩, E, h8, hb⟩
theorem iload_full {w : World} {n c : Nat} {A : Option Addr} {bs : List Nat} {r : Rd} (E : Env w) (ht : takeR bs = .ok r) (h1 : r.words = h.words) (size : Int) (hs1 : 64 ≤ size) (hs2 : size ≤ 1048576)
    (hs : size.toNat < h.words.length) (hr : Reads w w.heap.size 1 A n (u8c bs)) (hA : 0 < n → ∃ g0 o0, A = some ⟨g0, o0, none⟩) (hc : n ≤ c) (hn : n ≤ 9223372036854775807) (h8 : ∀ x ∈ bs, x < 256) :
    Calls Tryd.prog 9 #[.slice A n c, .int .i64 size] w (Told (.tuple #[.pointer none, .int .i64 4]) w) :=
  (iload_any (c := c) size E.spares hr hA hc hn h8).mono fun e w' ⟨hb, hh⟩ => by
    have e3 : ildE bs size = 4 := (if_neg (by omega)).trans (takeE_small ht h1 hs)
    rcases hh with ⟨_, rfl⟩ | ⟨h5, _⟩
    · rw [e3]
      exact ⟨rfl, hb⟩
    · rw [e3] at h5; cases h5
end
def ia0 : HM := HM.new 64
def ia1 : HM := ia0.AllocH 0 1 1
def ia2 : HM := ia1.makeH 2 [104, 105]
def ia3 : HM := ia2.putH 2 0 4294967295
def ia4 : HM := ia3.setRootH 3 10
theorem ia_f1 : ia0.AllocO 0 1 1 = 2 ∧ ia0.AllocE 0 1 1 = 0 := by decide +kernel
theorem ia_f2 : ia1.makeO 2 [104, 105] = 10 ∧ ia1.makeE 2 [104, 105] = 0 := by decide +kernel
theorem ia_f3 : ia2.putE 2 0 4294967295 = 0 := by decide +kernel
theorem ia_f4 : ia3.setRootE 3 10 = 0 := by decide +kernel
theorem ia_size : ia4.size = 64 := by decide +kernel
theorem ia_last : ia4.last = 2 := by decide +kernel
theorem ia_roots : ia4.roots = [0, 0, 0, 10] ++ List.replicate 60 0 := by decide +kernel
theorem ia_parse : parseW ia4.words = some [⟨⟨1, 1, 0, 0, 1⟩, [4294967295]⟩, ⟨⟨1, 2, 2, 2, 2⟩, [26984]⟩] := by kernel_rfl
theorem ia_len {l : List Ob} (G : ia4.Good l) : (ia4.newI l).length = 106 := by
  have h1 := G.ofWords.2
  rw [ia_parse] at h1
  injection h1 with h1
  subst h1
  have hL : oopsL [⟨⟨1, 1, 0, 0, 1⟩, [4294967295]⟩, ⟨⟨1, 2, 2, 2, 2⟩, [26984]⟩] = [2, 10] := by decide +kernel
  have e0 : (payH ia4 [⟨⟨1, 1, 0, 0, 1⟩, [4294967295]⟩, ⟨⟨1, 2, 2, 2, 2⟩, [26984]⟩]).length = 2 := by
    unfold payH
    rw [ia_last, cnt7_small (by decide), cnt7_small (by decide)]
    rfl
  have n1 : numL [2, 10] 0 = 0 := by decide +kernel
  have n2 : numL [2, 10] 2 = 1 := by decide +kernel
  have n3 : vnum [2, 10] 4294967295 = 3 := by decide +kernel
  have p1 : payB [2, 10] ⟨⟨1, 1, 0, 0, 1⟩, [4294967295]⟩ = [3] := by
    show valsB [2, 10] [4294967295] = [3]
    rw [valsB_map, List.map_cons, List.map_nil, n3, List.flatMap_cons, List.flatMap_nil, cnt7_small (by decide)]
    rfl
  have p2 : payB [2, 10] ⟨⟨1, 2, 2, 2, 2⟩, [26984]⟩ = [104, 105] := by decide +kernel
  have e1 : (objsB [2, 10] [⟨⟨1, 1, 0, 0, 1⟩, [4294967295]⟩, ⟨⟨1, 2, 2, 2, 2⟩, [26984]⟩]).length = 11 := by
    unfold objsB
    rw [List.flatMap_cons, List.flatMap_cons, List.flatMap_nil]
    unfold objB'
    simp only [p1, p2, n1, n2, cnt7_small (show 0 < 128 by decide), cnt7_small (show 1 < 128 by decide), cnt7_small (show 2 < 128 by decide), List.length_append, List.length_cons, List.length_nil]
  have e2 : (valsB [2, 10] ia4.roots).length = 64 := by
    rw [valsB_map, flat_small, List.length_map, ia_roots]
    · rfl
    · rw [ia_roots]
      decide +kernel
  unfold HM.newI
  rw [hL]
  simp only [List.length_append, secI_len, e0, e1, e2, List.length_nil, List.length_cons, cnt7_small (show 2 < 128 by decide), cnt7_small (show 11 < 128 by decide), cnt7_small (show 64 < 128 by decide), cnt7_small (show 0 < 128 by decide)]
theorem hi_reads (w : World) (t : TypeId) (r : Nat × Nat) : Reads (w.alloc (.cells #[.int .u8 104, .int .u8 105] t r)) (w.alloc (.cells #[.int .u8 104, .int .u8 105] t r)).heap.size 1 (some ⟨w.heap.size, 0, none⟩) 2 (u8c [104, 105]) :=
  ⟨rfl, fun _ => ⟨_, rfl, by simp, fun j u hj => by
    rw [WideShapes.add_plain, Nat.zero_add, World.cell?_alloc_mark]
    simpa [u8c] using hj⟩⟩
theorem HM.size_self {h : HM} {n : Nat} (e : h.size = n) : ({ h with size := n } : HM) = h := by subst e; rfl
set_option maxRecDepth 100000 in
set_option maxHeartbeats 4000000 in
theorem iawake_any (W : World) (E : Env W) : Calls Tryd.prog 6 #[] W (Told (.bool true) W) := by
  have HE := Lib.hid E; clear E
  have kc := fun (w : World) (C : Array Value) (n c : Nat) => Lib.run_convert_bytes_const (P := Tryd.prog) w 32 5 C n c Tryd.underlying32 Tryd.underlying5
  go_enter Tryd.func6, Tryd.ntmps6
  go_wp2_with fail
  refine (new_any 64 (by decide) (by decide) _).mono ?_
  rintro e w1 hN
  obtain ⟨p, g, rfl, L0⟩ := Live.of_new (v := fun g => .tuple #[ptr g, .int .i64 0]) HE.out (by decide) (by decide) hN
  replace L0 : Live W w1 p g ia0 := L0
  clear hN
  unfold ptr
  go_wp2_with fail
  refine (inum_any 0 (by decide) _).mono ?_
  rintro e w2 ⟨rfl, rfl⟩
  go_wp2_with fail
  refine (L0.alloc 0 (by decide) 1 1).mono ?_
  rintro e w2 ⟨p1, rfl, L1, -⟩
  rw [ia_f1.1, ia_f1.2]
  replace L1 : Live W w2 p1 g ia1 := L1
  go_wp2_with fail
  refine ((L1.after ((Below.refl _ _).alloc (Nat.le_refl _) _)).make 2 (by decide) _ 2 2 [104, 105] (by decide) (hi_reads w2 _ _) (by decide)).mono ?_
  rintro e w3 ⟨p2, rfl, L2, -⟩
  rw [ia_f2.1, ia_f2.2]
  replace L2 : Live W w3 p2 g ia2 := L2
  go_wp2_with fail
  refine (L2.put 2 (by decide) 0 4294967295 (by decide)).mono ?_
  rintro e w4 ⟨p3, rfl, L3, -⟩
  replace L3 : Live W w4 p3 g ia3 := L3
  go_wp2_with fail
  refine (L3.setRoot 3 10 (by decide)).mono ?_
  rintro e w5 ⟨p4, rfl, L4, -⟩
  replace L4 : Live W w5 p4 g ia4 := L4
  clear L0 L1 L2 L3
  have hS4 := ia_size
  have hN4 := @ia_len
  generalize ia4 = h4 at *
  obtain ⟨l, G4⟩ := L4.good
  have hg4 := L4.hg
  subst hg4
  have HG4 := Lib.hid G4
  have hsv := isave_any L4.at_ G4 L4.envw.spares
  have HL4 := Lib.hid L4
  clear L4 G4
  unfold ptr at hsv
  go_wp2_with fail
  refine hsv.mono ?_
  rintro e w6 ⟨v6, rfl, hown6, hb6⟩
  obtain ⟨A6, c6, rfl, hr6, hc6, ha6⟩ := own_sliceA hown6
  have HL6 := Lib.hid (HL4.out.after hb6)
  have hlen := hN4 HG4.out
  rw [hlen] at hr6 ha6 hc6
  have hld := iload_back (c := c6) HL6.out.envw HG4.out (take_new HG4.out) rfl rfl rfl rfl 64 (by decide) (by decide) (by have := HG4.out.fit.room; rw [hS4] at this; exact this) hr6 ha6 hc6 (by decide) (newI_byte HG4.out)
  rw [HM.size_self (n := (64 : Int).toNat) hS4] at hld
  have HLD := Lib.hid hld
  have HLEN := Lib.hid hlen
  rw [hlen]
  clear hsv hr6 hown6 hb6 HL4 hld hlen ha6 hc6
  go_wp2_with fail
  refine HLD.out.mono ?_
  rintro e w7 ⟨p7, rfl, L7⟩
  have HL7 := Lib.hid (HL6.out.after L7.below)
  have HX7 := Lib.hid L7
  clear L7 HLD HL6
  unfold ptr
  go_wp2_with fail
  refine (inum_any 0 (by decide) _).mono ?_
  rintro e w8 ⟨rfl, rfl⟩
  go_wp2_with fail
  refine (inum_any 0 (by decide) _).mono ?_
  rintro e w8 ⟨rfl, rfl⟩
  have hsm := HL7.out.same HX7.out
  rw [sameH_self] at hsm
  have HSM := Lib.hid hsm
  clear hsm
  go_wp2_with fail
  refine HSM.out.mono ?_
  rintro e w8 ⟨rfl, hb8⟩
  have HB8 := Lib.hid (below_top HL7.out.below hb8)
  clear hb8
  go_wp2_with fail
  go_ret
  exact ⟨rfl, HB8.out⟩
end Go.Proofs.YtfpleoblehfhbaaDoor

namespace Go.Proofs.YtfpleoblehfhbaaDoor
open Go.RowKit
attribute [local go_sem] Oper.semAt_some
theorem isame_own {w w' : World} {n n' c c' : Nat} {A A' : Option Addr} {bs : List Nat} (hb : Below w.heap.size w w') (hr : Reads w w.heap.size 1 A n (u8c bs)) (hr' : Reads w' w'.heap.size 1 A' n' (u8c bs)) (hn : n ≤ 9223372036854775807) (hn' : n' ≤ 9223372036854775807) :
    Calls Tryd.prog 12 #[.slice A n c, .slice A' n' c'] w' (Told (.bool true) w') := by
  have h := isame_any A A' n n' c c' bs bs w' hn hn' ((hr.below hb).more hb.size) hr'
  rw [sameL_self] at h
  exact h
set_option maxRecDepth 100000 in
set_option maxHeartbeats 8000000 in
theorem imageBack_any (W : World) (E : Env W) (k : Cs) (hk : k.At W W.heap.size) : Calls Tryd.prog 3 #[k.agg] W (Told (.bool true) W) := by
  have hb0 := (Below.refl W.heap.size W).alloc (Nat.le_refl _) (.cells #[.int .i64 k.size, .slice k.A k.n k.c, .slice k.A' k.n' k.c', .int .u32 (k.last : Nat)] 26)
  have BX := Lib.hid (Blk.new W 26 #[.int .i64 k.size, .slice k.A k.n k.c, .slice k.A' k.n' k.c', .int .u32 (k.last : Nat)])
  have HB0 := Lib.hid hb0
  have HE0 := Lib.hid (E.below hb0)
  have HAW := Lib.hid (fun (w : World) (E : Env w) => iawake_any w E)
  have HBU := Lib.hid (iboth_any _ (E.below hb0) k (hk.below hb0))
  have HNU := Lib.hid (fun w => inum_any 0 (by decide) w)
  clear hb0 E hk
  unfold Cs.agg at HBU ⊢
  go_enter Tryd.func3, Tryd.ntmps3
  obtain ⟨x0, x1, x2, x3⟩ := cells4I BX.out
  go_wp2_with fail
  clear x0 x1 x2 x3
  generalize W.alloc (.cells #[.int .i64 k.size, .slice k.A k.n k.c, .slice k.A' k.n' k.c', .int .u32 (k.last : Nat)] 26) = W1 at *
  refine HBU.out.mono ?_
  rintro e w1 ⟨hb1, ⟨hno, rfl⟩ | ⟨hok, p, q, l, rfl, L1, G1, -⟩⟩
  · have HA := Lib.hid (HAW.out _ (HE0.out.below hb1))
    have HB1 := Lib.hid (HB0.out.trans (hb1.mono HB0.out.size))
    clear hb1 HBU hno
    go_wp2_with fail
    refine HA.out.mono ?_
    rintro e w2 ⟨rfl, hb2⟩
    have HB2 := Lib.hid (below_top HB1.out hb2)
    clear hb2
    go_wp2_with fail
    go_ret
    exact ⟨rfl, HB2.out⟩
  · have HB1 := Lib.hid (HB0.out.trans (hb1.mono HB0.out.size))
    have HA := Lib.hid (HAW.out _ (HE0.out.below hb1))
    have BX1 := Lib.hid (BX.out.below hb1 BX.out.lt)
    have HL1 := Lib.hid L1
    have HG := Lib.hid G1
    have HLN := Lib.hid (newI_len G1)
    have HLO := Lib.hid (show k.h.oldI.length ≤ 8388608 by rw [oldI_len]; have := G1.fit.room; have := G1.fit.hi; have := G1.fit.roots; omega)
    have HK := Lib.hid hok
    clear hb1 HBU hok L1 G1 HB0 BX
    unfold ptr
    go_wp2_with fail
    refine HA.out.mono ?_
    rintro e w2 ⟨rfl, hb2⟩
    have HL2 := Lib.hid (HL1.out.after hb2)
    have HB2 := Lib.hid (below_top HB1.out hb2)
    have BX2 := Lib.hid (BX1.out.below hb2 BX1.out.lt)
    have HSV := Lib.hid (isave_any (HL1.out.after hb2).at_ HG.out (HL1.out.after hb2).envw.spares)
    clear hb2 HA HL1 HB1 BX1 HAW
    unfold ptr at HSV
    go_wp2_with fail
    refine HSV.out.mono ?_
    rintro e w3 ⟨v3, rfl, hown3, hb3⟩
    obtain ⟨A3, c3, rfl, hr3, hc3, ha3⟩ := own_sliceA hown3
    have HR3 := Lib.hid hr3
    have HL3 := Lib.hid (HL2.out.after hb3)
    have HB3 := Lib.hid (below_top HB2.out hb3)
    have BX3 := Lib.hid (BX2.out.below hb3 BX2.out.lt)
    have HSO := Lib.hid (isaveOld_any (HL2.out.after hb3).at_ HG.out.fit)
    have HC3 := Lib.hid (And.intro hc3 ha3)
    clear hown3 hr3 hb3 HSV HL2 HB2 BX2 hc3 ha3
    unfold ptr at HSO
    go_wp2_with fail
    refine HSO.out.mono ?_
    rintro e w4 ⟨v4, rfl, hown4, hb4⟩
    obtain ⟨A4, c4, rfl, hr4, hc4, ha4⟩ := own_sliceA hown4
    have HR4 := Lib.hid hr4
    have HF4 := Lib.hid hb4
    have HL4 := Lib.hid (HL3.out.after hb4)
    have HB4 := Lib.hid (below_top HB3.out hb4)
    have BX4 := Lib.hid (BX3.out.below hb4 BX3.out.lt)
    have HC4 := Lib.hid (And.intro hc4 ha4)
    have HLD := Lib.hid (iload_back (c := c3) (HL3.out.after hb4).envw HG.out (take_new HG.out) rfl rfl rfl rfl k.size HK.out.1 HK.out.2.1 HG.out.fit.room ((HR3.out.below hb4).more hb4.size) HC3.out.2 HC3.out.1 (by have := HLN.out; omega) (newI_byte HG.out))
    have x0 := BX4.out.cell 0
    clear hown4 hr4 hb4 HSO HL3 HB3 BX3 hc4 ha4
    go_wp2_with fail
    refine HLD.out.mono ?_
    rintro e w5 ⟨p5, rfl, L5⟩
    have hb5 := L5.below
    have HX5 := Lib.hid (show Live w4 w5 p5 p5.g k.h from L5)
    have HF5 := Lib.hid (HF4.out.trans (hb5.mono HF4.out.size))
    have HR5 := Lib.hid ((HR4.out.below hb5).more hb5.size)
    have HL5 := Lib.hid (HL4.out.after hb5)
    have HB5 := Lib.hid (below_top HB4.out hb5)
    have BX5 := Lib.hid (BX4.out.below hb5 BX4.out.lt)
    have HLO5 := Lib.hid (iload_back (c := c4) (HL4.out.after hb5).envw HG.out (take_old HG.out.fit) rfl rfl rfl rfl k.size HK.out.1 HK.out.2.1 HG.out.fit.room ((HR4.out.below hb5).more hb5.size) HC4.out.2 HC4.out.1 (by have := HLO.out; omega) (oldI_byte _))
    clear x0
    have x0 := BX5.out.cell 0
    clear L5 hb5 HLD HL4 HB4 BX4 HF4
    unfold ptr
    go_wp2_with fail
    refine HLO5.out.mono ?_
    rintro e w6 ⟨p6, rfl, L6⟩
    have hb6 := L6.below
    have HY6 := Lib.hid (show Live w5 w6 p6 p6.g k.h from L6)
    have HX6 := Lib.hid (HX5.out.after hb6)
    have HF6 := Lib.hid (HF5.out.trans (hb6.mono HF5.out.size))
    have HR6 := Lib.hid ((HR5.out.below hb6).more hb6.size)
    have HL6 := Lib.hid (HL5.out.after hb6)
    have HB6 := Lib.hid (below_top HB5.out hb6)
    clear L6 hb6 HLO5 HL5 HB5 BX5 HF5 HX5 x0 HR4 HR5
    unfold ptr
    go_wp2_with fail
    refine (HNU.out _).mono ?_
    rintro e w7 ⟨rfl, rfl⟩
    go_wp2_with fail
    refine (HNU.out _).mono ?_
    rintro e w7 ⟨rfl, rfl⟩
    go_wp2_with fail
    refine (HNU.out _).mono ?_
    rintro e w7 ⟨rfl, rfl⟩
    go_wp2_with fail
    refine (HNU.out _).mono ?_
    rintro e w7 ⟨rfl, rfl⟩
    have hsm := HL6.out.same HX6.out
    rw [sameH_self] at hsm
    have HSM := Lib.hid hsm
    clear hsm
    go_wp2_with fail
    refine HSM.out.mono ?_
    rintro e w7 ⟨rfl, hb7⟩
    have HY7 := Lib.hid (HY6.out.after hb7)
    have HX7 := Lib.hid (HX6.out.after hb7)
    have HF7 := Lib.hid (HF6.out.trans (hb7.mono HF6.out.size))
    have HR7 := Lib.hid ((HR6.out.below hb7).more hb7.size)
    have HL7 := Lib.hid (HL6.out.after hb7)
    have HB7 := Lib.hid (below_top HB6.out hb7)
    have hsm := (HL6.out.after hb7).same (HY6.out.after hb7)
    rw [sameH_self] at hsm
    have HSM2 := Lib.hid hsm
    clear hsm hb7 HSM HY6 HX6 HF6 HR6 HL6 HB6
    go_wp2_with fail
    refine HSM2.out.mono ?_
    rintro e w8 ⟨rfl, hb8⟩
    have HY8 := Lib.hid (HY7.out.after hb8)
    have HF8 := Lib.hid (HF7.out.trans (hb8.mono HF7.out.size))
    have HR8 := Lib.hid ((HR7.out.below hb8).more hb8.size)
    have HB8 := Lib.hid (below_top HB7.out hb8)
    have HSV8 := Lib.hid (isave_any (HX7.out.after hb8).at_ HG.out (HX7.out.after hb8).envw.spares)
    clear hb8 HSM2 HY7 HX7 HF7 HR7 HL7 HB7
    unfold ptr at HSV8
    go_wp2_with fail
    refine HSV8.out.mono ?_
    rintro e w9 ⟨v9, rfl, hown9, hb9⟩
    obtain ⟨A9, c9, rfl, hr9, -, -⟩ := own_sliceA hown9
    have HR9 := Lib.hid hr9
    have HO9 := Lib.hid ((HR8.out.below hb9).more hb9.size)
    have HF9 := Lib.hid (HF8.out.trans (hb9.mono HF8.out.size))
    have HB9 := Lib.hid (below_top HB8.out hb9)
    have HSO9 := Lib.hid (isaveOld_any (HY8.out.after hb9).at_ HG.out.fit)
    clear hown9 hr9 hb9 HSV8 HY8 HF8 HR8 HB8
    unfold ptr at HSO9
    go_wp2_with fail
    refine HSO9.out.mono ?_
    rintro e w10 ⟨v10, rfl, hown10, hb10⟩
    obtain ⟨A10, c10, rfl, hr10, -, -⟩ := own_sliceA hown10
    have HR10 := Lib.hid hr10
    have HO10 := Lib.hid ((HO9.out.below hb10).more hb10.size)
    have HN10 := Lib.hid ((HR9.out.below hb10).more hb10.size)
    have HF10 := Lib.hid (HF9.out.trans (hb10.mono HF9.out.size))
    have HB10 := Lib.hid (below_top HB9.out hb10)
    clear hown10 hr10 hb10 HSO9 HO9 HR9 HF9 HB9
    go_wp2_with fail
    refine (HNU.out _).mono ?_
    rintro e w11 ⟨rfl, rfl⟩
    go_wp2_with fail
    refine (HNU.out _).mono ?_
    rintro e w11 ⟨rfl, rfl⟩
    have HS11 := Lib.hid (isame_own (c := c3) (c' := c9) HF10.out HR3.out HN10.out (by have := HLN.out; omega) (by have := HLN.out; omega))
    go_wp2_with fail
    refine HS11.out.mono ?_
    rintro e w12 ⟨rfl, hb12⟩
    have HB12 := Lib.hid (below_top HB10.out hb12)
    have HS12 := Lib.hid (isame_own (c := c4) (c' := c10) (Below.refl w12.heap.size w12) ((HO10.out.below hb12).more hb12.size) ((HR10.out.below hb12).more hb12.size) (by have := HLO.out; omega) (by have := HLO.out; omega))
    clear hb12 HS11
    go_wp2_with fail
    refine HS12.out.mono ?_
    rintro e w13 ⟨rfl, hb13⟩
    have HB13 := Lib.hid (below_top HB12.out hb13)
    clear hb13 HS12
    go_wp2_with fail
    go_ret
    exact ⟨rfl, HB13.out⟩
end Go.Proofs.YtfpleoblehfhbaaDoor

namespace Go.Proofs.YtfpleoblehfhbaaDoor
open Go.RowKit
attribute [local go_sem] Oper.semAt_some
/-- A slice of bytes that holds an image of h. -/
def ImgV (h : HM) (w : World) (u : Value) : Prop :=
  ∃ (A : Option Addr) (n c : Nat) (bs : List Nat) (r : Rd), u = .slice A n c ∧ Reads w w.heap.size 1 A n (u8c bs) ∧ (0 < n → ∃ g0 o0, A = some ⟨g0, o0, none⟩) ∧ n ≤ c ∧ n ≤ 9223372036854775807 ∧ (∀ x ∈ bs, x < 256) ∧ takeR bs = .ok r ∧ r.words = h.words ∧ r.roots = h.roots ∧ r.last = h.last ∧ r.wrong = false
theorem ImgV.below {h : HM} {w w' : World} {u : Value} (hh : ImgV h w u) (hb : Below w.heap.size w w') : ImgV h w' u := by
  obtain ⟨A, n, c, bs, r, h1, h2, h3⟩ := hh
  exact ⟨A, n, c, bs, r, h1, (h2.below hb).more hb.size, h3⟩
theorem row_two {cur : World} {B a : Nat} {t : TypeId} {x y : Value} (h : cur.heap[a]? = some (.cells #[x, y] t (0, 0))) (hB : a < B) : Reads cur B 1 (some ⟨a, 0, none⟩) 2 [x, y] := by
  refine ⟨rfl, fun _ => ⟨_, rfl, hB, fun j u hu => ?_⟩⟩
  rw [WideShapes.add_plain, Nat.zero_add, cell_of_row cur a j #[x, y] t (0, 0) h]
  simpa using hu
set_option maxRecDepth 100000 in
set_option maxHeartbeats 8000000 in
theorem imageAnywhere_any (W : World) (E : Env W) (k : Cs) (hk : k.At W W.heap.size) (size : Int) (hsz0 : (Lit.int .i64 size).wf = true) : Calls Tryd.prog 4 #[k.agg, .int .i64 size] W (Told (.bool true) W) := by
  have hb0 := (Below.refl W.heap.size W).alloc (Nat.le_refl _) (.cells #[.int .i64 k.size, .slice k.A k.n k.c, .slice k.A' k.n' k.c', .int .u32 (k.last : Nat)] 26)
  have BX := Lib.hid (Blk.new W 26 #[.int .i64 k.size, .slice k.A k.n k.c, .slice k.A' k.n' k.c', .int .u32 (k.last : Nat)])
  have HB0 := Lib.hid hb0
  have HE0 := Lib.hid (E.below hb0)
  have HK0 := Lib.hid (hk.below hb0)
  have HAW := Lib.hid (fun (w : World) (E : Env w) => iawake_any w E)
  have HBU := Lib.hid (iboth_any _ (E.below hb0) k (hk.below hb0))
  have HNU := Lib.hid (fun E hE w => inum_any E hE w)
  clear hb0 E hk hsz0
  unfold Cs.agg at HBU ⊢
  go_enter Tryd.func4, Tryd.ntmps4
  obtain ⟨x0, x1, x2, x3⟩ := cells4I BX.out
  go_wp2_with fail
  clear x0 x1 x2 x3
  generalize W.alloc (.cells #[.int .i64 k.size, .slice k.A k.n k.c, .slice k.A' k.n' k.c', .int .u32 (k.last : Nat)] 26) = W1 at *
  refine HBU.out.mono ?_
  rintro e w1 ⟨hb1, ⟨hno, rfl⟩ | ⟨hok, p, q, l, rfl, L1, G1, -⟩⟩
  · skip
    have HA := Lib.hid (HAW.out _ (HE0.out.below hb1))
    have HB1 := Lib.hid (HB0.out.trans (hb1.mono HB0.out.size))
    clear hb1 HBU
    go_wp2_with fail
    refine HA.out.mono ?_
    rintro e w2 ⟨rfl, hb2⟩
    have HB2 := Lib.hid (below_top HB1.out hb2)
    clear hb2
    go_wp2_with fail
    go_ret
    exact ⟨rfl, HB2.out⟩
  by_cases hs1 : size < 64
  · have hd1 : decide (size < 64) = true := decide_eq_true hs1
    clear hs1 L1 G1 hok
    unfold ptr
    have HA := Lib.hid (HAW.out _ (HE0.out.below hb1))
    have HB1 := Lib.hid (HB0.out.trans (hb1.mono HB0.out.size))
    clear hb1 HBU
    go_wp2_with fail
    refine HA.out.mono ?_
    rintro e w2 ⟨rfl, hb2⟩
    have HB2 := Lib.hid (below_top HB1.out hb2)
    clear hb2
    go_wp2_with fail
    go_ret
    exact ⟨rfl, HB2.out⟩
  by_cases hs2 : 1048576 < size
  · have hd1 : decide (size < 64) = false := decide_eq_false hs1
    have hd2 : decide (size > 1048576) = true := decide_eq_true hs2
    clear hs1 hs2 L1 G1 hok
    unfold ptr
    have HA := Lib.hid (HAW.out _ (HE0.out.below hb1))
    have HB1 := Lib.hid (HB0.out.trans (hb1.mono HB0.out.size))
    clear hb1 HBU
    go_wp2_with fail
    refine HA.out.mono ?_
    rintro e w2 ⟨rfl, hb2⟩
    have HB2 := Lib.hid (below_top HB1.out hb2)
    clear hb2
    go_wp2_with fail
    go_ret
    exact ⟨rfl, HB2.out⟩
  obtain ⟨s, rfl⟩ := Int.eq_ofNat_of_zero_le (show 0 ≤ size by omega)
  have hd1 : decide ((s : Int) < 64) = false := decide_eq_false hs1
  have hd2 : decide ((s : Int) > 1048576) = false := decide_eq_false hs2
  have HS := Lib.hid (And.intro (show 64 ≤ s by omega) (show s ≤ 1048576 by omega))
  have HB1 := Lib.hid (HB0.out.trans (hb1.mono HB0.out.size))
  have HA := Lib.hid (HAW.out _ (HE0.out.below hb1))
  have BX1 := Lib.hid (BX.out.below hb1 BX.out.lt)
  have HK1 := Lib.hid (HK0.out.below hb1)
  have HL1 := Lib.hid L1
  have HG := Lib.hid G1
  have HLN := Lib.hid (newI_len G1)
  have HLO := Lib.hid (show k.h.oldI.length ≤ 8388608 by rw [oldI_len]; have := G1.fit.room; have := G1.fit.hi; have := G1.fit.roots; omega)
  clear hb1 HBU hok L1 G1 HB0 BX HE0 HK0 hs1 hs2
  unfold ptr
  go_wp2_with fail
  clear hd1 hd2
  refine HA.out.mono ?_
  rintro e w2 ⟨rfl, hb2⟩
  have HL2 := Lib.hid (HL1.out.after hb2)
  have HB2 := Lib.hid (below_top HB1.out hb2)
  have BX2 := Lib.hid (BX1.out.below hb2 BX1.out.lt)
  have HK2 := Lib.hid (HK1.out.below hb2)
  have HSV := Lib.hid (isave_any (HL1.out.after hb2).at_ HG.out (HL1.out.after hb2).envw.spares)
  clear hb2 HA HL1 HB1 BX1 HAW HK1
  unfold ptr at HSV
  go_wp2_with fail
  refine HSV.out.mono ?_
  rintro e w3 ⟨v3, rfl, hown3, hb3⟩
  obtain ⟨A3, c3, rfl, hr3, hc3, ha3⟩ := own_sliceA hown3
  have HI3 := Lib.hid (show ImgV k.h w3 (.slice A3 (k.h.newI l).length c3) from ⟨A3, _, c3, k.h.newI l, _, rfl, hr3, ha3, hc3, by have := HLN.out; omega, newI_byte HG.out, take_new HG.out, rfl, rfl, rfl, rfl⟩)
  have HL3 := Lib.hid (HL2.out.after hb3)
  have HB3 := Lib.hid (below_top HB2.out hb3)
  have BX3 := Lib.hid (BX2.out.below hb3 BX2.out.lt)
  have HK3 := Lib.hid (HK2.out.below hb3)
  have HSO := Lib.hid (isaveOld_any (HL2.out.after hb3).at_ HG.out.fit)
  clear hown3 hr3 hb3 HSV HL2 HB2 BX2 hc3 ha3 HK2
  unfold ptr at HSO
  generalize (k.h.newI l).length = n3 at *
  go_wp2_with fail
  refine HSO.out.mono ?_
  rintro e w4 ⟨v4, rfl, hown4, hb4⟩
  obtain ⟨A4, c4, rfl, hr4, hc4, ha4⟩ := own_sliceA hown4
  have HI4 := Lib.hid (show ImgV k.h w4 (.slice A4 k.h.oldI.length c4) from ⟨A4, _, c4, k.h.oldI, _, rfl, hr4, ha4, hc4, by have := HLO.out; omega, oldI_byte _, take_old HG.out.fit, rfl, rfl, rfl, rfl⟩)
  have HJ4 := Lib.hid (HI3.out.below hb4)
  have HE4 := Lib.hid (HL3.out.after hb4).envw
  have HB4 := Lib.hid (below_top HB3.out hb4)
  have BX4 := Lib.hid (BX3.out.below hb4 BX3.out.lt)
  have HK4 := Lib.hid (HK3.out.below hb4)
  clear hown4 hr4 hb4 HSO HL3 HB3 BX3 hc4 ha4 HI3 HK3 HLN HLO
  generalize k.h.oldI.length = n4 at *
  have hb5 := (Below.refl w4.heap.size w4).alloc (Nat.le_refl _) (.cells #[.slice A3 n3 c3, .slice A4 n4 c4] 32)
  have HR5 := Lib.hid (row_two (heap_alloc_new w4 (.cells #[.slice A3 n3 c3, .slice A4 n4 c4] 32)) (B := (w4.alloc (.cells #[.slice A3 n3 c3, .slice A4 n4 c4] 32)).heap.size) (by simp))
  have HI5 := Lib.hid (HI4.out.below hb5)
  have HJ5 := Lib.hid (HJ4.out.below hb5)
  have HE5 := Lib.hid (HE4.out.below hb5)
  have HB5 := Lib.hid (below_top HB4.out hb5)
  have BX5 := Lib.hid (BX4.out.below hb5 BX4.out.lt)
  have HK5 := Lib.hid (HK4.out.below hb5)
  clear hb5 HI4 HJ4 HE4 HB4 BX4 HK4
  go_wp2_with fail
  generalize w4.alloc (.cells #[.slice A3 n3 c3, .slice A4 n4 c4] 32) = w5 at *
  generalize w4.heap.size = gl at *
  go_loopw [13, 14, 15] (fun i _ _ wr => ∃ j : Nat, j ≤ 2 ∧ i = .int .i64 j ∧ Below w5.heap.size w5 wr) (fun i _ _ _ => 2 - (intOf i).toNat)
  case atStart => exact ⟨0, by omega, rfl, Below.refl _ _⟩
  case round =>
    obtain ⟨j, hj, rfl, hbr⟩ := hrel
    have HBR := Lib.hid hbr
    clear hbr
    by_cases hlt : j < 2
    · obtain ⟨ad, u, hA, hbl, hu, hc⟩ := (HR5.out.below HBR.out).at_ hlt
      cases hA
      rw [WideShapes.add_plain, Nat.zero_add] at hc
      have hi : ImgV k.h wr u := by
        rcases (by omega : j = 0 ∨ j = 1) with rfl | rfl
        · cases hu
          exact HJ5.out.below HBR.out
        · cases hu
          exact HI5.out.below HBR.out
      obtain ⟨A, n, c, bs, r, rfl, hr, ha, hc1, hn1, h8, ht, t1, t2, t3, t4⟩ := hi
      have BXR := BX5.out.below HBR.out BX5.out.lt
      have HEr := HE5.out.below HBR.out
      by_cases hfit : s < k.h.words.length
      · have HLD := Lib.hid (iload_full (c := c) HEr ht t1 (s : Int) (by have := HS.out; omega) (by have := HS.out; omega) (by rw [Int.toNat_natCast]; exact hfit) hr ha hc1 hn1 h8)
        have HBX := Lib.hid BXR
        have HF := Lib.hid (show (s : Int) < ((k.n : Nat) : Int) from (by
          have h1 := HK5.out.hr.1
          rw [u32s_len] at h1
          have h2 : k.h.words.length = k.ws.length := rfl
          omega))
        clear hfit hr ha hc1 hn1 h8 ht t1 t2 t3 t4 BXR HEr hu hbl
        go_wp2_with fail
        refine HLD.out.mono ?_
        rintro e w6 ⟨rfl, hb6⟩
        have HB6 := Lib.hid (below_top HBR.out hb6)
        have x1 := (HBX.out.below hb6 HBX.out.lt).cell 1
        have hd := HF.out
        clear hb6 HLD hc
        go_wp2_with fail
        refine (HNU.out 4 (by decide) _).mono ?_
        rintro e w7 ⟨rfl, rfl⟩
        go_wp2_with fail
        go_roundw
        case rel => exact ⟨j + 1, by omega, by go_num, HB6.out⟩
        case measure => simp [intOf]; omega
      · have HLD := Lib.hid (iload_back (c := c) HEr HG.out ht t1 t2 t3 t4 (s : Int) (by have := HS.out; omega) (by have := HS.out; omega) (by rw [Int.toNat_natCast]; omega) hr ha hc1 hn1 h8)
        have HBX := Lib.hid BXR
        have HF := Lib.hid (show ¬ (s : Int) < ((k.n : Nat) : Int) from (by
          have h1 := HK5.out.hr.1
          rw [u32s_len] at h1
          have h2 : k.h.words.length = k.ws.length := rfl
          omega))
        rw [Int.toNat_natCast] at HLD
        clear hfit hr ha hc1 hn1 h8 ht t1 t2 t3 t4 BXR HEr hu hbl
        go_wp2_with fail
        refine HLD.out.mono ?_
        rintro e w6 ⟨p6, rfl, L6⟩
        have HB6 := Lib.hid (below_top HBR.out L6.below)
        have BX6 := (HBX.out.below L6.below HBX.out.lt)
        have HBX6 := Lib.hid BX6
        have HL6 := Lib.hid L6
        have HK6 := Lib.hid (HK5.out.below HB6.out)
        have x1 := BX6.cell 1
        have hd : decide (((k.n : Nat) : Int) > (s : Int)) = false := decide_eq_false (Int.not_lt.2 (by have := HF.out; omega))
        have hd2 : decide ((s : Int) < ((k.n : Nat) : Int)) = false := decide_eq_false (Int.not_lt.2 (by have := HF.out; omega))
        clear HLD hc L6
        unfold ptr
        go_wp2_with fail
        · exfalso; have := HF.out; omega
        clear x1
        have HSZ := Lib.hid (fun (w1 : World) (hb : Below w6.heap.size w6 w1) => (HL6.out.after hb).size)
        have HLS := Lib.hid (show ∀ w1 : World, Below w6.heap.size w6 w1 → Calls Tryd.prog 18 #[.pointer (some ⟨p6.g, 0, none⟩)] w1 (Said (.int .u32 (k.last : Nat)) w1) from fun (w1 : World) (hb : Below w6.heap.size w6 w1) => (HL6.out.after hb).last)
        have HWD := Lib.hid (fun (w1 : World) (hb : Below w6.heap.size w6 w1) => (HL6.out.after hb).words)
        have HRT := Lib.hid (fun (w1 : World) (hb : Below w6.heap.size w6 w1) => (HL6.out.after hb).roots)
        have r1 := HG.out.fit.room
        have r2 := HG.out.fit.hi
        have r3 := HG.out.fit.roots
        have HSW := Lib.hid (fun (w1 w2 : World) (hb : Below w6.heap.size w6 w2) (g1 c1 : Nat) (r : Row w2 g1 24 c1 (u32s k.h.words)) => sameWords_any (some ⟨g1, 0, none⟩) k.A k.h.words.length k.n c1 k.c k.h.words k.ws w2 (by omega) HK6.out.hn
          (by have := r.reads r.lt; rw [u32s_len] at this; exact this) (HK6.out.below hb).hr)
        have HSO := Lib.hid (fun (w1 w2 : World) (hb : Below w6.heap.size w6 w2) (g1 c1 : Nat) (r : Row w2 g1 54 c1 (u32s k.h.roots)) => sameOops_any (some ⟨g1, 0, none⟩) k.A' k.h.roots.length k.n' c1 k.c' k.h.roots k.rs w2 (by omega) HK6.out.hn'
          (by have := r.reads r.lt; rw [u32s_len] at this; exact this) (HK6.out.below hb).hr')
        rw [show sameL k.h.words k.ws = true from sameL_self _] at HSW
        rw [show sameL k.h.roots k.rs = true from sameL_self _] at HSO
        have HC := Lib.hid (fun (w1 : World) (hb : Below w6.heap.size w6 w1) => cells4I (HBX6.out.below hb HBX6.out.lt))
        obtain ⟨c0, c1', c2, c3'⟩ := cells4I HBX6.out
        have HL1 := Lib.hid (u32s_len k.h.words)
        have HL2 := Lib.hid (u32s_len k.h.roots)
        have hB0 : Below w6.heap.size w6 w6.drew := below_drew (Below.refl _ _)
        clear r1 r2 r3
        go_region_held3 (fun w' => w'.cell? ⟨W.heap.size, 0, none⟩ = some (.int .i64 k.size) ∧ w'.cell? ⟨W.heap.size, 1, none⟩ = some (.slice k.A k.n k.c) ∧ w'.cell? ⟨W.heap.size, 2, none⟩ = some (.slice k.A' k.n' k.c') ∧ w'.cell? ⟨W.heap.size, 3, none⟩ = some (.int .u32 (k.last : Nat)))
          (first | exact ⟨c0, c1', c2, c3'⟩ | exact HC.out _ (by assumption) | go_keep)
          (first
            | (go_at_call 10; refine (HNU.out 0 (by decide) _).mono ?_; rintro e w' ⟨rfl, rfl⟩)
            | (go_at_call 13; refine (HSZ.out _ (by assumption)).mono ?_; rintro e w' ⟨rfl, rfl⟩)
            | (go_at_call 18; refine (HLS.out _ (by assumption)).mono ?_; rintro e w' ⟨rfl, rfl⟩)
            | (go_at_call 15; refine (HWD.out _ (by assumption)).mono ?_; rintro e w1 ⟨g1, k1, rfl, rw1, -, hb1⟩; rw [HL1.out]; have hB1 := below_top (by assumption) hb1)
            | (go_at_call 17; refine (HRT.out _ (by assumption)).mono ?_; rintro e w3 ⟨g3, k3, rfl, rw3, -, hb3⟩; rw [HL2.out]; have hB3 := below_top (by assumption) hb3)
            | (go_at_call 14; refine (HSW.out w6 _ (by assumption) _ _ (by assumption)).mono ?_; rintro e w2 ⟨rfl, hb2⟩; have hB2 := below_top (by assumption) hb2)
            | (go_at_call 16; refine (HSO.out w6 _ (by assumption) _ _ (by assumption)).mono ?_; rintro e w4 ⟨rfl, hb4⟩; have hB4 := below_top (by assumption) hb4))
        all_goals go_wp2_with fail
        all_goals go_roundw
        all_goals first | exact ⟨j + 1, by omega, by go_num, below_top HB6.out (by assumption)⟩ | (simp [intOf]; omega)
    · obtain rfl : j = 2 := by omega
      go_wp2_with fail
      go_ret
      exact ⟨rfl, below_top HB5.out HBR.out⟩
end Go.Proofs.YtfpleoblehfhbaaDoor
