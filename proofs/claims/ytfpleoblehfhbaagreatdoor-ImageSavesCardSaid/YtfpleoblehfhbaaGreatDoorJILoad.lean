/- Load, Info, Migrate: the program's. -/
/- awake of chapter 14: a small heap comes back. -/
/- ImageSaves, walked: the images of any heap, byte for byte, of both versions. -/
import Derived.Test.YtfpleoblehfhbaaGreatDoorJIParse
import Derived.Test.YtfpleoblehfhbaaGreatDoorJISave
import Derived.Test.YtfpleoblehfhbaaGreatDoorJINew
import Derived.Test.YtfpleoblehfhbaaGreatDoorJIROld
import Derived.Test.YtfpleoblehfhbaaGreatDoorJRefG
import Derived.Lib.SlBytesConst
set_option linter.unusedVariables false
set_option linter.unusedSimpArgs false
set_option linter.unusedSectionVars false
namespace Go.Proofs.YtfpleoblehfhbaaGreatDoor
open Go.RowKit
attribute [local go_sem] Oper.semAt_some
/-- The error of Load. -/
noncomputable def ildE (b : List Nat) (size : Int) : Nat := if size < 64 ∨ 1048576 < size then 1 else takeE b size.toNat
/-- What Load answers. -/
def ILoadP (b : List Nat) (size : Int) (w : World) (e : Ending) (w' : World) : Prop :=
  Below w.heap.size w w' ∧ ((ildE b size ≠ 0 ∧ e = .returned (.tuple #[.pointer none, .int .i64 (ildE b size : Nat)])) ∨
    (ildE b size = 0 ∧ ∃ (p : HP) (l : List Ob), e = .returned (.tuple #[ptr p.g, .int .i64 0]) ∧ (takeH b size.toNat).Good l ∧ HAt w' p (takeH b size.toNat) ∧ ∀ k, p.has k → w.heap.size ≤ k))
set_option maxRecDepth 100000 in
set_option maxHeartbeats 4000000 in
theorem iload_any {w : World} {n c : Nat} {A : Option Addr} {bs : List Nat} (size : Int) (hs : Spares w) (hr : Reads w w.heap.size 1 A n (u8c bs)) (hA : 0 < n → ∃ g0 o0, A = some ⟨g0, o0, none⟩) (hc : n ≤ c) (hn : n ≤ 9223372036854775807) (h8 : ∀ x ∈ bs, x < 256) :
    Calls Tryz.prog 6 #[.slice A n c, .int .i64 size] w (ILoadP bs size w) := by
  by_cases hsz : size < 64 ∨ 1048576 < size
  · have HF := Lib.hid (show ildE bs size = 1 from if_pos hsz)
    by_cases h0 : size < 64
    · have hd1 : decide (size < 64) = true := by simpa using h0
      clear hsz h0 hs hr hA hc hn h8
      go_enter Tryz.func6, Tryz.ntmps6
      go_wp2_with fail
      go_ret2
      exact ⟨Below.refl _ _, .inl ⟨by rw [HF.out]; decide, by rw [HF.out]; rfl⟩⟩
    · have hd1 : decide (size < 64) = false := by simpa using h0
      have hd2 : 1048576 < size := by omega
      clear hsz h0 hs hr hA hc hn h8
      go_enter Tryz.func6, Tryz.ntmps6
      go_wp2_with fail
      go_ret2
      exact ⟨Below.refl _ _, .inl ⟨by rw [HF.out]; decide, by rw [HF.out]; rfl⟩⟩
  · obtain ⟨s, hs'⟩ := Int.eq_ofNat_of_zero_le (show 0 ≤ size by omega)
    subst hs'
    have h1 : 64 ≤ s := by omega
    have h2 : s ≤ 1048576 := by omega
    have HF := Lib.hid (show ildE bs (s : Int) = takeE bs s from (if_neg hsz).trans (by rw [Int.toNat_natCast]))
    have HT := Lib.hid (take_any hs hr hA hc hn h8 h1 h2)
    have hd1 : decide ((s : Int) < 64) = false := by simp; omega
    have hd2 : decide ((s : Int) > 1048576) = false := by simp; omega
    clear hsz hs hr hA hc hn h8 h1 h2
    unfold ILoadP
    rw [Int.toNat_natCast, HF.out]
    go_enter Tryz.func6, Tryz.ntmps6
    go_wp2_with fail
    refine HT.out.mono ?_
    rintro e w1 ⟨hb1, ⟨h3, rfl⟩ | ⟨h3, r, l, p, A1, A2, n1, c1, n2, c2, hr, hG, rfl, hat, hnew⟩⟩
    · have HB := Lib.hid (hb1.alloc hb1.size (.cells #[.int .i64 0, .int .i64 0, .int .u32 0, .slice none 0 0, .slice none 0 0] 59))
      have H3 := Lib.hid h3
      clear hb1 h3 HT HF
      unfold rdV
      go_wp2_with fail
      go_ret2
      exact ⟨HB.out, .inl ⟨H3.out, rfl⟩⟩
    · have HB1 := Lib.hid hb1
      have HBX := Lib.hid ((Below.refl w1.heap.size w1).alloc (Nat.le_refl _) (.cells #[.int .i64 r.ver, .int .i64 l.length, .int .u32 r.last, .slice A1 n1 c1, .slice A2 n2 c2] 59))
      have HG := Lib.hid hG
      have HAT := Lib.hid hat
      have HNW := Lib.hid hnew
      have H3 := Lib.hid h3
      clear hb1 hG hat hnew h3 HF HT
      unfold ptr
      go_wp2_with fail
      go_ret2
      exact ⟨below_top HB1.out HBX.out, .inr ⟨H3.out, p, l, rfl, HG.out, HAT.out.below HBX.out, HNW.out⟩⟩
end Go.Proofs.YtfpleoblehfhbaaGreatDoor

namespace Go.Proofs.YtfpleoblehfhbaaGreatDoor
open Go.RowKit
theorem own_sliceA {w : World} {base : Nat} {e : TypeId} {v : Value} {n : Nat} {xs : List Value} (h : w.ownsRow base e 1 v n xs) : ∃ A c, v = .slice A n c ∧ Reads w w.heap.size 1 A n xs ∧ n ≤ c ∧ (0 < n → ∃ g0 o0, A = some ⟨g0, o0, none⟩) := by
  have h' := h
  obtain ⟨A, c, rfl, hr⟩ := own_sliceI h'
  rcases h.2 with ⟨h1, h2⟩ | ⟨g, cap, cur, h1, h2, h3, h4, h5⟩
  · subst h2
    exact ⟨A, c, rfl, hr, Nat.zero_le _, fun hh => by omega⟩
  · injection h1 with h6 h7 h8
    subst h6 h8
    exact ⟨_, c, rfl, hr, h4, fun _ => ⟨g, 0, rfl⟩⟩
theorem flat_small : ∀ l : List Nat, (∀ x ∈ l, x < 128) → (l.flatMap cnt7).length = l.length
  | [], _ => rfl
  | a :: l, h => by
    rw [List.flatMap_cons, List.length_append, flat_small l (fun x hx => h x (by simp [hx])), cnt7_small (h a (by simp))]
    simp; omega
section
variable {h : HM} {l : List Ob}
/-- What an image of a good heap is to a heap of a size. -/
theorem takeE_of {bs : List Nat} {r : Rd} {size : Nat} (G : h.Good l) (ht : takeR bs = .ok r) (h1 : r.words = h.words) (h2 : r.roots = h.roots) (h3 : r.last = h.last) (h4 : r.wrong = false) (hs : h.words.length ≤ size) :
    takeE bs size = 0 ∧ takeH bs size = { h with size := size } := by
  have hp := G.ofWords
  have e : HM.ofWords size h.words h.roots h.last = { h with size := size } := by
    have := hp.1
    unfold HM.ofWords at this ⊢
    rw [hp.2] at this ⊢
    have h5 := congrArg HM.starts this
    simp only at h5 ⊢
    rw [h5]
  refine ⟨?_, ?_⟩
  · unfold takeE
    rw [ht]
    simp only
    rw [h1, h2, h3, h4, if_neg (by omega), if_neg]
    rintro (hh | hh)
    · cases hh
    · refine hh ⟨l, hp.2, ?_⟩
      rw [e]
      exact ⟨G.sound.cls, G.sound.flds, G.sound.spare, G.sound.sers, G.sound.nodup, G.sound.roots⟩
  · unfold takeH
    rw [ht]
    simp only
    rw [h1, h2, h3, e]
theorem takeE_small {bs : List Nat} {r : Rd} {size : Nat} (ht : takeR bs = .ok r) (h1 : r.words = h.words) (hs : size < h.words.length) : takeE bs size = 4 := by
  unfold takeE
  rw [ht]
  simp only
  rw [h1, if_pos hs]
theorem secI_byte {tag : Nat} {p : List Nat} (ht : tag < 256) (hp : ∀ x ∈ p, x < 256) : ∀ x ∈ secI tag p, x < 256 := by
  intro x hx
  unfold secI at hx
  simp only [List.mem_append, List.mem_cons, List.not_mem_nil, or_false] at hx
  rcases hx with rfl | hx | hx | hx
  · exact ht
  · exact cnt7_byte _ x hx
  · exact hp x hx
  · exact four4_byte _ x hx
theorem newI_byte (G : h.Good l) : ∀ x ∈ h.newI l, x < 256 := by
  obtain ⟨h1, h2, h3⟩ := pay_bytes G
  intro x hx
  unfold HM.newI at hx
  simp only [List.mem_append] at hx
  rcases hx with hx | hx | hx | hx | hx
  · simp only [List.mem_cons, List.not_mem_nil, or_false] at hx
    omega
  · exact secI_byte (by decide) h1 x hx
  · exact secI_byte (by decide) h2 x hx
  · exact secI_byte (by decide) h3 x hx
  · exact secI_byte (p := []) (by decide) (fun y hy => by cases hy) x hx
theorem oldI_byte (h : HM) : ∀ x ∈ h.oldI, x < 256 := by
  intro x hx
  unfold HM.oldI at hx
  rcases List.mem_append.1 hx with hx | hx
  · exact oldB_byte h x hx
  · exact four4_byte _ x hx
/-- What Load answers to an image of a good heap that fits. -/
def BackP (h : HM) (w : World) (e : Ending) (w' : World) : Prop := ∃ p : HP, e = .returned (.tuple #[ptr p.g, .int .i64 0]) ∧ Live w w' p p.g h
theorem iload_back {w : World} {n c : Nat} {A : Option Addr} {bs : List Nat} {r : Rd} (E : Env w) (G : h.Good l) (ht : takeR bs = .ok r) (h1 : r.words = h.words) (h2 : r.roots = h.roots) (h3 : r.last = h.last) (h4 : r.wrong = false) (size : Int) (hs1 : 64 ≤ size) (hs2 : size ≤ 1048576)
    (hs : h.words.length ≤ size.toNat) (hr : Reads w w.heap.size 1 A n (u8c bs)) (hA : 0 < n → ∃ g0 o0, A = some ⟨g0, o0, none⟩) (hc : n ≤ c) (hn : n ≤ 9223372036854775807) (h8 : ∀ x ∈ bs, x < 256) :
    Calls Tryz.prog 6 #[.slice A n c, .int .i64 size] w (BackP { h with size := size.toNat } w) :=
  (iload_any (c := c) size E.spares hr hA hc hn h8).mono fun e w' ⟨hb, hh⟩ => by
    obtain ⟨e1, e2⟩ := takeE_of G ht h1 h2 h3 h4 hs
    have e3 : ildE bs size = 0 := (if_neg (by omega)).trans e1
    rcases hh with ⟨h5, _⟩ | ⟨_, p, l', rfl, h6, h7, h8⟩
    · exact absurd e3 h5
    · rw [e2] at h6 h7
      exact ⟨p, rfl, h7, rfl, ⟨l', h6⟩, E, h8, hb⟩
theorem iload_full {w : World} {n c : Nat} {A : Option Addr} {bs : List Nat} {r : Rd} (E : Env w) (ht : takeR bs = .ok r) (h1 : r.words = h.words) (size : Int) (hs1 : 64 ≤ size) (hs2 : size ≤ 1048576)
    (hs : size.toNat < h.words.length) (hr : Reads w w.heap.size 1 A n (u8c bs)) (hA : 0 < n → ∃ g0 o0, A = some ⟨g0, o0, none⟩) (hc : n ≤ c) (hn : n ≤ 9223372036854775807) (h8 : ∀ x ∈ bs, x < 256) :
    Calls Tryz.prog 6 #[.slice A n c, .int .i64 size] w (Told (.tuple #[.pointer none, .int .i64 4]) w) :=
  (iload_any (c := c) size E.spares hr hA hc hn h8).mono fun e w' ⟨hb, hh⟩ => by
    have e3 : ildE bs size = 4 := (if_neg (by omega)).trans (takeE_small ht h1 hs)
    rcases hh with ⟨_, rfl⟩ | ⟨h5, _⟩
    · rw [e3]
      exact ⟨rfl, hb⟩
    · rw [e3] at h5; cases h5
end
def ia0 : HM := HM.new 64
def ia1 : HM := ia0.AllocH 0 1 1
def ia2 : HM := ia1.makeH 2 [104, 105]
def ia3 : HM := ia2.putH 2 0 4294967295
def ia4 : HM := ia3.setRootH 3 10
theorem ia_f1 : ia0.AllocO 0 1 1 = 2 ∧ ia0.AllocE 0 1 1 = 0 := by decide +kernel
theorem ia_f2 : ia1.makeO 2 [104, 105] = 10 ∧ ia1.makeE 2 [104, 105] = 0 := by decide +kernel
theorem ia_f3 : ia2.putE 2 0 4294967295 = 0 := by decide +kernel
theorem ia_f4 : ia3.setRootE 3 10 = 0 := by decide +kernel
theorem ia_size : ia4.size = 64 := by decide +kernel
theorem ia_last : ia4.last = 2 := by decide +kernel
theorem ia_roots : ia4.roots = [0, 0, 0, 10] ++ List.replicate 60 0 := by decide +kernel
theorem ia_parse : parseW ia4.words = some [⟨⟨1, 1, 0, 0, 1⟩, [4294967295]⟩, ⟨⟨1, 2, 2, 2, 2⟩, [26984]⟩] := by kernel_rfl
theorem ia_len {l : List Ob} (G : ia4.Good l) : (ia4.newI l).length = 106 := by
  have h1 := G.ofWords.2
  rw [ia_parse] at h1
  injection h1 with h1
  subst h1
  have hL : oopsL [⟨⟨1, 1, 0, 0, 1⟩, [4294967295]⟩, ⟨⟨1, 2, 2, 2, 2⟩, [26984]⟩] = [2, 10] := by decide +kernel
  have e0 : (payH ia4 [⟨⟨1, 1, 0, 0, 1⟩, [4294967295]⟩, ⟨⟨1, 2, 2, 2, 2⟩, [26984]⟩]).length = 2 := by
    unfold payH
    rw [ia_last, cnt7_small (by decide), cnt7_small (by decide)]
    rfl
  have n1 : numL [2, 10] 0 = 0 := by decide +kernel
  have n2 : numL [2, 10] 2 = 1 := by decide +kernel
  have n3 : vnum [2, 10] 4294967295 = 3 := by decide +kernel
  have p1 : payB [2, 10] ⟨⟨1, 1, 0, 0, 1⟩, [4294967295]⟩ = [3] := by
    show valsB [2, 10] [4294967295] = [3]
    rw [valsB_map, List.map_cons, List.map_nil, n3, List.flatMap_cons, List.flatMap_nil, cnt7_small (by decide)]
    rfl
  have p2 : payB [2, 10] ⟨⟨1, 2, 2, 2, 2⟩, [26984]⟩ = [104, 105] := by decide +kernel
  have e1 : (objsB [2, 10] [⟨⟨1, 1, 0, 0, 1⟩, [4294967295]⟩, ⟨⟨1, 2, 2, 2, 2⟩, [26984]⟩]).length = 11 := by
    unfold objsB
    rw [List.flatMap_cons, List.flatMap_cons, List.flatMap_nil]
    unfold objB'
    simp only [p1, p2, n1, n2, cnt7_small (show 0 < 128 by decide), cnt7_small (show 1 < 128 by decide), cnt7_small (show 2 < 128 by decide), List.length_append, List.length_cons, List.length_nil]
  have e2 : (valsB [2, 10] ia4.roots).length = 64 := by
    rw [valsB_map, flat_small, List.length_map, ia_roots]
    · rfl
    · rw [ia_roots]
      decide +kernel
  unfold HM.newI
  rw [hL]
  simp only [List.length_append, secI_len, e0, e1, e2, List.length_nil, List.length_cons, cnt7_small (show 2 < 128 by decide), cnt7_small (show 11 < 128 by decide), cnt7_small (show 64 < 128 by decide), cnt7_small (show 0 < 128 by decide)]
theorem hi_reads (w : World) (t : TypeId) (r : Nat × Nat) : Reads (w.alloc (.cells #[.int .u8 104, .int .u8 105] t r)) (w.alloc (.cells #[.int .u8 104, .int .u8 105] t r)).heap.size 1 (some ⟨w.heap.size, 0, none⟩) 2 (u8c [104, 105]) :=
  ⟨rfl, fun _ => ⟨_, rfl, by simp, fun j u hj => by
    rw [WideShapes.add_plain, Nat.zero_add, World.cell?_alloc_mark]
    simpa [u8c] using hj⟩⟩
theorem HM.size_self {h : HM} {n : Nat} (e : h.size = n) : ({ h with size := n } : HM) = h := by subst e; rfl
set_option maxRecDepth 100000 in
set_option maxHeartbeats 4000000 in
theorem iawake_any (W : World) (E : Env W) : Calls Tryz.prog 16 #[] W (Told (.bool true) W) := by
  have HE := Lib.hid E; clear E
  have kc := fun (w : World) (C : Array Value) (n c : Nat) => Lib.run_convert_bytes_const (P := Tryz.prog) w 22 5 C n c Tryz.underlying22 Tryz.underlying5
  go_enter Tryz.func16, Tryz.ntmps16
  go_wp2_with fail
  refine (new_any 64 (by decide) (by decide) _).mono ?_
  rintro e w1 hN
  obtain ⟨p, g, rfl, L0⟩ := Live.of_new (v := fun g => .tuple #[ptr g, .int .i64 0]) HE.out (by decide) (by decide) hN
  replace L0 : Live W w1 p g ia0 := L0
  clear hN
  unfold ptr
  go_wp2_with fail
  refine (inum_any 0 (by decide) _).mono ?_
  rintro e w2 ⟨rfl, rfl⟩
  go_wp2_with fail
  refine (L0.alloc 0 (by decide) 1 1).mono ?_
  rintro e w2 ⟨p1, rfl, L1, -⟩
  rw [ia_f1.1, ia_f1.2]
  replace L1 : Live W w2 p1 g ia1 := L1
  go_wp2_with fail
  refine ((L1.after ((Below.refl _ _).alloc (Nat.le_refl _) _)).make 2 (by decide) _ 2 2 [104, 105] (by decide) (hi_reads w2 _ _) (by decide)).mono ?_
  rintro e w3 ⟨p2, rfl, L2, -⟩
  rw [ia_f2.1, ia_f2.2]
  replace L2 : Live W w3 p2 g ia2 := L2
  go_wp2_with fail
  refine (L2.put 2 (by decide) 0 4294967295 (by decide)).mono ?_
  rintro e w4 ⟨p3, rfl, L3, -⟩
  replace L3 : Live W w4 p3 g ia3 := L3
  go_wp2_with fail
  refine (L3.setRoot 3 10 (by decide)).mono ?_
  rintro e w5 ⟨p4, rfl, L4, -⟩
  replace L4 : Live W w5 p4 g ia4 := L4
  clear L0 L1 L2 L3
  have hS4 := ia_size
  have hN4 := @ia_len
  generalize ia4 = h4 at *
  obtain ⟨l, G4⟩ := L4.good
  have hg4 := L4.hg
  subst hg4
  have HG4 := Lib.hid G4
  have hsv := isave_any L4.at_ G4 L4.envw.spares
  have HL4 := Lib.hid L4
  clear L4 G4
  unfold ptr at hsv
  go_wp2_with fail
  refine hsv.mono ?_
  rintro e w6 ⟨v6, rfl, hown6, hb6⟩
  obtain ⟨A6, c6, rfl, hr6, hc6, ha6⟩ := own_sliceA hown6
  have HL6 := Lib.hid (HL4.out.after hb6)
  have hlen := hN4 HG4.out
  rw [hlen] at hr6 ha6 hc6
  have hld := iload_back (c := c6) HL6.out.envw HG4.out (take_new HG4.out) rfl rfl rfl rfl 64 (by decide) (by decide) (by have := HG4.out.fit.room; rw [hS4] at this; exact this) hr6 ha6 hc6 (by decide) (newI_byte HG4.out)
  rw [HM.size_self (n := (64 : Int).toNat) hS4] at hld
  have HLD := Lib.hid hld
  have HLEN := Lib.hid hlen
  rw [hlen]
  clear hsv hr6 hown6 hb6 HL4 hld hlen ha6 hc6
  go_wp2_with fail
  refine HLD.out.mono ?_
  rintro e w7 ⟨p7, rfl, L7⟩
  have HL7 := Lib.hid (HL6.out.after L7.below)
  have HX7 := Lib.hid L7
  clear L7 HLD HL6
  unfold ptr
  go_wp2_with fail
  refine (inum_any 0 (by decide) _).mono ?_
  rintro e w8 ⟨rfl, rfl⟩
  go_wp2_with fail
  refine (inum_any 0 (by decide) _).mono ?_
  rintro e w8 ⟨rfl, rfl⟩
  have hsm := HL7.out.same HX7.out
  rw [sameH_self] at hsm
  have HSM := Lib.hid hsm
  clear hsm
  go_wp2_with fail
  refine HSM.out.mono ?_
  rintro e w8 ⟨rfl, hb8⟩
  have HB8 := Lib.hid (below_top HL7.out.below hb8)
  clear hb8
  go_wp2_with fail
  go_ret
  exact ⟨rfl, HB8.out⟩
end Go.Proofs.YtfpleoblehfhbaaGreatDoor

namespace Go.Proofs.YtfpleoblehfhbaaGreatDoor
open Go.RowKit
attribute [local go_sem] Oper.semAt_some
theorem isame_self {w w' : World} {n n' c c' : Nat} {A A' : Option Addr} {bs : List Nat} (hb : Below w.heap.size w w') (hr : Reads w w.heap.size 1 A n (u8c bs)) (hr' : Reads w' w'.heap.size 1 A' n' (u8c bs)) (hn : n ≤ 9223372036854775807) (hn' : n' ≤ 9223372036854775807) :
    Calls Tryz.prog 13 #[.slice A n c, .slice A' n' c'] w' (Told (.bool true) w') := by
  have h := isame_any A A' n n' c c' bs bs w' hn hn' ((hr.below hb).more hb.size) hr'
  rw [sameL_self] at h
  exact h
set_option maxRecDepth 100000 in
set_option maxHeartbeats 8000000 in
theorem imageSaves_any (W : World) (E : Env W) (k : Cs) (hk : k.At W W.heap.size) : Calls Tryz.prog 5 #[k.agg] W (Told (.bool true) W) := by
  have hb0 := (Below.refl W.heap.size W).alloc (Nat.le_refl _) (.cells #[.int .i64 k.size, .slice k.A k.n k.c, .slice k.A' k.n' k.c', .int .u32 (k.last : Nat)] 47)
  have B1 := Blk.new W 47 #[.int .i64 k.size, .slice k.A k.n k.c, .slice k.A' k.n' k.c', .int .u32 (k.last : Nat)]
  have HB0 := Lib.hid hb0
  have HE0 := Lib.hid (E.below hb0)
  have HAW := Lib.hid (fun (w : World) (E : Env w) => iawake_any w E)
  have HBU := Lib.hid (iboth_any _ (E.below hb0) k (hk.below hb0))
  have HNU := Lib.hid (fun w => inum_any 0 (by decide) w)
  clear hb0 E hk
  unfold Cs.agg at HBU ⊢
  go_enter Tryz.func5, Tryz.ntmps5
  obtain ⟨x0, x1, x2, x3⟩ := cells4I B1
  go_wp2_with fail
  clear x0 x1 x2 x3 B1
  generalize W.alloc (.cells #[.int .i64 k.size, .slice k.A k.n k.c, .slice k.A' k.n' k.c', .int .u32 (k.last : Nat)] 47) = W1 at *
  refine HBU.out.mono ?_
  rintro e w1 ⟨hb1, ⟨hno, rfl⟩ | ⟨hok, p, q, l, rfl, L1, G1, R1⟩⟩
  · have HA := Lib.hid (HAW.out _ (HE0.out.below hb1))
    have HB1 := Lib.hid (HB0.out.trans (hb1.mono HB0.out.size))
    clear hb1 HBU hno
    go_wp2_with fail
    refine HA.out.mono ?_
    rintro e w2 ⟨rfl, hb2⟩
    have HB2 := Lib.hid (below_top HB1.out hb2)
    clear hb2
    go_wp2_with fail
    go_ret
    exact ⟨rfl, HB2.out⟩
  · have HB1 := Lib.hid (HB0.out.trans (hb1.mono HB0.out.size))
    have HSV := Lib.hid (isave_any L1.at_ G1 L1.envw.spares)
    have HL1 := Lib.hid L1
    have HR1 := Lib.hid R1
    have HG := Lib.hid G1
    have HLN := Lib.hid (newI_len G1)
    have HLO := Lib.hid (show k.h.oldI.length ≤ 8388608 by rw [oldI_len]; have := G1.fit.room; have := G1.fit.hi; have := G1.fit.roots; omega)
    clear hb1 HBU hok L1 R1 G1 HB0 HE0
    unfold ptr at HSV ⊢
    go_wp2_with fail
    refine HSV.out.mono ?_
    rintro e w2 ⟨v2, rfl, hown2, hb2⟩
    obtain ⟨A2, c2, rfl, hr2, -, -⟩ := own_sliceA hown2
    have HR2 := Lib.hid hr2
    have HL2 := Lib.hid (HL1.out.after hb2)
    have HQ2 := Lib.hid (HR1.out.below hb2)
    have HB2 := Lib.hid (below_top HB1.out hb2)
    have HSO := Lib.hid (isaveOld_any (HL1.out.after hb2).at_ HG.out.fit)
    clear hown2 hr2 hb2 HSV HL1 HR1 HB1
    unfold ptr at HSO
    go_wp2_with fail
    refine HSO.out.mono ?_
    rintro e w3 ⟨v3, rfl, hown3, hb3⟩
    obtain ⟨A3, c3, rfl, hr3, -, -⟩ := own_sliceA hown3
    have HR3 := Lib.hid hr3
    have HF3 := Lib.hid hb3
    have HL3 := Lib.hid (HL2.out.after hb3)
    have HQ3 := Lib.hid (HQ2.out.below hb3)
    have HB3 := Lib.hid (below_top HB2.out hb3)
    have HRS := Lib.hid (rsave_any (HQ2.out.below hb3) HG.out)
    clear hown3 hr3 hb3 HSO HL2 HQ2 HB2
    unfold ptr at HRS
    go_wp2_with fail
    refine (HNU.out _).mono ?_
    rintro e w4 ⟨rfl, rfl⟩
    go_wp2_with fail
    refine (HNU.out _).mono ?_
    rintro e w4 ⟨rfl, rfl⟩
    go_wp2_with fail
    refine HRS.out.mono ?_
    rintro e w4 ⟨v4, rfl, hown4, hb4⟩
    obtain ⟨A4, c4, rfl, hr4, -, -⟩ := own_sliceA hown4
    have HS4 := Lib.hid (isame_self (c := c2) (c' := c4) (HF3.out.trans (hb4.mono HF3.out.size)) HR2.out hr4 (by have := HLN.out; omega) (by have := HLN.out; omega))
    have HF4 := Lib.hid hb4
    have HL4 := Lib.hid (HL3.out.after hb4)
    have HQ4 := Lib.hid (HQ3.out.below hb4)
    have HB4 := Lib.hid (below_top HB3.out hb4)
    clear hown4 hr4 hb4 HRS HL3 HQ3 HB3
    go_wp2_with fail
    refine HS4.out.mono ?_
    rintro e w5 ⟨rfl, hb5⟩
    have HF5 := Lib.hid (HF4.out.trans (hb5.mono HF4.out.size))
    have HL5 := Lib.hid (HL4.out.after hb5)
    have HQ5 := Lib.hid (HQ4.out.below hb5)
    have HB5 := Lib.hid (below_top HB4.out hb5)
    have HRO := Lib.hid (rsaveOld_any (HQ4.out.below hb5) HG.out.fit)
    clear hb5 HS4 HL4 HQ4 HB4 HF4 HR2
    unfold ptr at HRO
    go_wp2_with fail
    refine HRO.out.mono ?_
    rintro e w6 ⟨v6, rfl, hown6, hb6⟩
    obtain ⟨A6, c6, rfl, hr6, -, -⟩ := own_sliceA hown6
    have HS6 := Lib.hid (isame_self (c := c3) (c' := c6) (HF5.out.trans (hb6.mono HF5.out.size)) HR3.out hr6 (by have := HLO.out; omega) (by have := HLO.out; omega))
    have HL6 := Lib.hid (HL5.out.after hb6)
    have HQ6 := Lib.hid (HQ5.out.below hb6)
    have HB6 := Lib.hid (below_top HB5.out hb6)
    clear hown6 hr6 hb6 HRO HL5 HQ5 HB5 HF5 HR3
    go_wp2_with fail
    refine HS6.out.mono ?_
    rintro e w7 ⟨rfl, hb7⟩
    have HB7 := Lib.hid (below_top HB6.out hb7)
    have HLK := Lib.hid (like_any (HL6.out.after hb7) (HQ6.out.below hb7))
    clear hb7 HS6 HL6 HQ6 HB6
    go_wp2_with fail
    refine HLK.out.mono ?_
    rintro e w8 ⟨rfl, hb8⟩
    have HB8 := Lib.hid (below_top HB7.out hb8)
    clear hb8 HLK HB7
    go_wp2_with fail
    go_ret
    exact ⟨rfl, HB8.out⟩
end Go.Proofs.YtfpleoblehfhbaaGreatDoor
