/- Load, Info, Migrate: the program's. -/
/- awake of chapter 14: a small heap comes back. -/
/- Images with up to 32 bits flipped: what is read of them; where a payload lies. Plain data. -/
/- span: where a section's payload lies. -/
import Derived.Test.YtfpleoblehfhbaaGreatDoorJIParse
import Derived.Test.YtfpleoblehfhbaaGreatDoorJISave
import Derived.Test.YtfpleoblehfhbaaGreatDoorJINew
import Derived.Test.YtfpleoblehfhbaaGreatDoorJIBurst
import Derived.Lib.SlBytesConst
import Derived.IntWalk
set_option linter.unusedVariables false
set_option linter.unusedSimpArgs false
set_option linter.unusedSectionVars false
namespace Go.Proofs.YtfpleoblehfhbaaGreatDoor
open Go.RowKit
attribute [local go_sem] Oper.semAt_some
/-- The error of Load. -/
noncomputable def ildE (b : List Nat) (size : Int) : Nat := if size < 64 ∨ 1048576 < size then 1 else takeE b size.toNat
/-- What Load answers. -/
def ILoadP (b : List Nat) (size : Int) (w : World) (e : Ending) (w' : World) : Prop :=
  Below w.heap.size w w' ∧ ((ildE b size ≠ 0 ∧ e = .returned (.tuple #[.pointer none, .int .i64 (ildE b size : Nat)])) ∨
    (ildE b size = 0 ∧ ∃ (p : HP) (l : List Ob), e = .returned (.tuple #[ptr p.g, .int .i64 0]) ∧ (takeH b size.toNat).Good l ∧ HAt w' p (takeH b size.toNat) ∧ ∀ k, p.has k → w.heap.size ≤ k))
set_option maxRecDepth 100000 in
set_option maxHeartbeats 4000000 in
theorem iload_any {w : World} {n c : Nat} {A : Option Addr} {bs : List Nat} (size : Int) (hs : Spares w) (hr : Reads w w.heap.size 1 A n (u8c bs)) (hA : 0 < n → ∃ g0 o0, A = some ⟨g0, o0, none⟩) (hc : n ≤ c) (hn : n ≤ 9223372036854775807) (h8 : ∀ x ∈ bs, x < 256) :
    Calls Tryz.prog 6 #[.slice A n c, .int .i64 size] w (ILoadP bs size w) := by
  by_cases hsz : size < 64 ∨ 1048576 < size
  · have HF := Lib.hid (show ildE bs size = 1 from if_pos hsz)
    by_cases h0 : size < 64
    · have hd1 : decide (size < 64) = true := by simpa using h0
      clear hsz h0 hs hr hA hc hn h8
      go_enter Tryz.func6, Tryz.ntmps6
      go_wp2_with fail
      go_ret2
      exact ⟨Below.refl _ _, .inl ⟨by rw [HF.out]; decide, by rw [HF.out]; rfl⟩⟩
    · have hd1 : decide (size < 64) = false := by simpa using h0
      have hd2 : 1048576 < size := by omega
      clear hsz h0 hs hr hA hc hn h8
      go_enter Tryz.func6, Tryz.ntmps6
      go_wp2_with fail
      go_ret2
      exact ⟨Below.refl _ _, .inl ⟨by rw [HF.out]; decide, by rw [HF.out]; rfl⟩⟩
  · obtain ⟨s, hs'⟩ := Int.eq_ofNat_of_zero_le (show 0 ≤ size by omega)
    subst hs'
    have h1 : 64 ≤ s := by omega
    have h2 : s ≤ 1048576 := by omega
    have HF := Lib.hid (show ildE bs (s : Int) = takeE bs s from (if_neg hsz).trans (by rw [Int.toNat_natCast]))
    have HT := Lib.hid (take_any hs hr hA hc hn h8 h1 h2)
    have hd1 : decide ((s : Int) < 64) = false := by simp; omega
    have hd2 : decide ((s : Int) > 1048576) = false := by simp; omega
    clear hsz hs hr hA hc hn h8 h1 h2
    unfold ILoadP
    rw [Int.toNat_natCast, HF.out]
    go_enter Tryz.func6, Tryz.ntmps6
    go_wp2_with fail
    refine HT.out.mono ?_
    rintro e w1 ⟨hb1, ⟨h3, rfl⟩ | ⟨h3, r, l, p, A1, A2, n1, c1, n2, c2, hr, hG, rfl, hat, hnew⟩⟩
    · have HB := Lib.hid (hb1.alloc hb1.size (.cells #[.int .i64 0, .int .i64 0, .int .u32 0, .slice none 0 0, .slice none 0 0] 59))
      have H3 := Lib.hid h3
      clear hb1 h3 HT HF
      unfold rdV
      go_wp2_with fail
      go_ret2
      exact ⟨HB.out, .inl ⟨H3.out, rfl⟩⟩
    · have HB1 := Lib.hid hb1
      have HBX := Lib.hid ((Below.refl w1.heap.size w1).alloc (Nat.le_refl _) (.cells #[.int .i64 r.ver, .int .i64 l.length, .int .u32 r.last, .slice A1 n1 c1, .slice A2 n2 c2] 59))
      have HG := Lib.hid hG
      have HAT := Lib.hid hat
      have HNW := Lib.hid hnew
      have H3 := Lib.hid h3
      clear hb1 hG hat hnew h3 HF HT
      unfold ptr
      go_wp2_with fail
      go_ret2
      exact ⟨below_top HB1.out HBX.out, .inr ⟨H3.out, p, l, rfl, HG.out, HAT.out.below HBX.out, HNW.out⟩⟩
end Go.Proofs.YtfpleoblehfhbaaGreatDoor

namespace Go.Proofs.YtfpleoblehfhbaaGreatDoor
open Go.RowKit
theorem own_sliceA {w : World} {base : Nat} {e : TypeId} {v : Value} {n : Nat} {xs : List Value} (h : w.ownsRow base e 1 v n xs) : ∃ A c, v = .slice A n c ∧ Reads w w.heap.size 1 A n xs ∧ n ≤ c ∧ (0 < n → ∃ g0 o0, A = some ⟨g0, o0, none⟩) := by
  have h' := h
  obtain ⟨A, c, rfl, hr⟩ := own_sliceI h'
  rcases h.2 with ⟨h1, h2⟩ | ⟨g, cap, cur, h1, h2, h3, h4, h5⟩
  · subst h2
    exact ⟨A, c, rfl, hr, Nat.zero_le _, fun hh => by omega⟩
  · injection h1 with h6 h7 h8
    subst h6 h8
    exact ⟨_, c, rfl, hr, h4, fun _ => ⟨g, 0, rfl⟩⟩
theorem flat_small : ∀ l : List Nat, (∀ x ∈ l, x < 128) → (l.flatMap cnt7).length = l.length
  | [], _ => rfl
  | a :: l, h => by
    rw [List.flatMap_cons, List.length_append, flat_small l (fun x hx => h x (by simp [hx])), cnt7_small (h a (by simp))]
    simp; omega
section
variable {h : HM} {l : List Ob}
/-- What an image of a good heap is to a heap of a size. -/
theorem takeE_of {bs : List Nat} {r : Rd} {size : Nat} (G : h.Good l) (ht : takeR bs = .ok r) (h1 : r.words = h.words) (h2 : r.roots = h.roots) (h3 : r.last = h.last) (h4 : r.wrong = false) (hs : h.words.length ≤ size) :
    takeE bs size = 0 ∧ takeH bs size = { h with size := size } := by
  have hp := G.ofWords
  have e : HM.ofWords size h.words h.roots h.last = { h with size := size } := by
    have := hp.1
    unfold HM.ofWords at this ⊢
    rw [hp.2] at this ⊢
    have h5 := congrArg HM.starts this
    simp only at h5 ⊢
    rw [h5]
  refine ⟨?_, ?_⟩
  · unfold takeE
    rw [ht]
    simp only
    rw [h1, h2, h3, h4, if_neg (by omega), if_neg]
    rintro (hh | hh)
    · cases hh
    · refine hh ⟨l, hp.2, ?_⟩
      rw [e]
      exact ⟨G.sound.cls, G.sound.flds, G.sound.spare, G.sound.sers, G.sound.nodup, G.sound.roots⟩
  · unfold takeH
    rw [ht]
    simp only
    rw [h1, h2, h3, e]
theorem takeE_small {bs : List Nat} {r : Rd} {size : Nat} (ht : takeR bs = .ok r) (h1 : r.words = h.words) (hs : size < h.words.length) : takeE bs size = 4 := by
  unfold takeE
  rw [ht]
  simp only
  rw [h1, if_pos hs]
theorem secI_byte {tag : Nat} {p : List Nat} (ht : tag < 256) (hp : ∀ x ∈ p, x < 256) : ∀ x ∈ secI tag p, x < 256 := by
  intro x hx
  unfold secI at hx
  simp only [List.mem_append, List.mem_cons, List.not_mem_nil, or_false] at hx
  rcases hx with rfl | hx | hx | hx
  · exact ht
  · exact cnt7_byte _ x hx
  · exact hp x hx
  · exact four4_byte _ x hx
theorem newI_byte (G : h.Good l) : ∀ x ∈ h.newI l, x < 256 := by
  obtain ⟨h1, h2, h3⟩ := pay_bytes G
  intro x hx
  unfold HM.newI at hx
  simp only [List.mem_append] at hx
  rcases hx with hx | hx | hx | hx | hx
  · simp only [List.mem_cons, List.not_mem_nil, or_false] at hx
    omega
  · exact secI_byte (by decide) h1 x hx
  · exact secI_byte (by decide) h2 x hx
  · exact secI_byte (by decide) h3 x hx
  · exact secI_byte (p := []) (by decide) (fun y hy => by cases hy) x hx
theorem oldI_byte (h : HM) : ∀ x ∈ h.oldI, x < 256 := by
  intro x hx
  unfold HM.oldI at hx
  rcases List.mem_append.1 hx with hx | hx
  · exact oldB_byte h x hx
  · exact four4_byte _ x hx
/-- What Load answers to an image of a good heap that fits. -/
def BackP (h : HM) (w : World) (e : Ending) (w' : World) : Prop := ∃ p : HP, e = .returned (.tuple #[ptr p.g, .int .i64 0]) ∧ Live w w' p p.g h
theorem iload_back {w : World} {n c : Nat} {A : Option Addr} {bs : List Nat} {r : Rd} (E : Env w) (G : h.Good l) (ht : takeR bs = .ok r) (h1 : r.words = h.words) (h2 : r.roots = h.roots) (h3 : r.last = h.last) (h4 : r.wrong = false) (size : Int) (hs1 : 64 ≤ size) (hs2 : size ≤ 1048576)
    (hs : h.words.length ≤ size.toNat) (hr : Reads w w.heap.size 1 A n (u8c bs)) (hA : 0 < n → ∃ g0 o0, A = some ⟨g0, o0, none⟩) (hc : n ≤ c) (hn : n ≤ 9223372036854775807) (h8 : ∀ x ∈ bs, x < 256) :
    Calls Tryz.prog 6 #[.slice A n c, .int .i64 size] w (BackP { h with size := size.toNat } w) :=
  (iload_any (c := c) size E.spares hr hA hc hn h8).mono fun e w' ⟨hb, hh⟩ => by
    obtain ⟨e1, e2⟩ := takeE_of G ht h1 h2 h3 h4 hs
    have e3 : ildE bs size = 0 := (if_neg (by omega)).trans e1
    rcases hh with ⟨h5, _⟩ | ⟨_, p, l', rfl, h6, h7, h8⟩
    · exact absurd e3 h5
    · rw [e2] at h6 h7
      exact ⟨p, rfl, h7, rfl, ⟨l', h6⟩, E, h8, hb⟩
theorem iload_full {w : World} {n c : Nat} {A : Option Addr} {bs : List Nat} {r : Rd} (E : Env w) (ht : takeR bs = .ok r) (h1 : r.words = h.words) (size : Int) (hs1 : 64 ≤ size) (hs2 : size ≤ 1048576)
    (hs : size.toNat < h.words.length) (hr : Reads w w.heap.size 1 A n (u8c bs)) (hA : 0 < n → ∃ g0 o0, A = some ⟨g0, o0, none⟩) (hc : n ≤ c) (hn : n ≤ 9223372036854775807) (h8 : ∀ x ∈ bs, x < 256) :
    Calls Tryz.prog 6 #[.slice A n c, .int .i64 size] w (Told (.tuple #[.pointer none, .int .i64 4]) w) :=
  (iload_any (c := c) size E.spares hr hA hc hn h8).mono fun e w' ⟨hb, hh⟩ => by
    have e3 : ildE bs size = 4 := (if_neg (by omega)).trans (takeE_small ht h1 hs)
    rcases hh with ⟨_, rfl⟩ | ⟨h5, _⟩
    · rw [e3]
      exact ⟨rfl, hb⟩
    · rw [e3] at h5; cases h5
end
def ia0 : HM := HM.new 64
def ia1 : HM := ia0.AllocH 0 1 1
def ia2 : HM := ia1.makeH 2 [104, 105]
def ia3 : HM := ia2.putH 2 0 4294967295
def ia4 : HM := ia3.setRootH 3 10
theorem ia_f1 : ia0.AllocO 0 1 1 = 2 ∧ ia0.AllocE 0 1 1 = 0 := by decide +kernel
theorem ia_f2 : ia1.makeO 2 [104, 105] = 10 ∧ ia1.makeE 2 [104, 105] = 0 := by decide +kernel
theorem ia_f3 : ia2.putE 2 0 4294967295 = 0 := by decide +kernel
theorem ia_f4 : ia3.setRootE 3 10 = 0 := by decide +kernel
theorem ia_size : ia4.size = 64 := by decide +kernel
theorem ia_last : ia4.last = 2 := by decide +kernel
theorem ia_roots : ia4.roots = [0, 0, 0, 10] ++ List.replicate 60 0 := by decide +kernel
theorem ia_parse : parseW ia4.words = some [⟨⟨1, 1, 0, 0, 1⟩, [4294967295]⟩, ⟨⟨1, 2, 2, 2, 2⟩, [26984]⟩] := by kernel_rfl
theorem ia_len {l : List Ob} (G : ia4.Good l) : (ia4.newI l).length = 106 := by
  have h1 := G.ofWords.2
  rw [ia_parse] at h1
  injection h1 with h1
  subst h1
  have hL : oopsL [⟨⟨1, 1, 0, 0, 1⟩, [4294967295]⟩, ⟨⟨1, 2, 2, 2, 2⟩, [26984]⟩] = [2, 10] := by decide +kernel
  have e0 : (payH ia4 [⟨⟨1, 1, 0, 0, 1⟩, [4294967295]⟩, ⟨⟨1, 2, 2, 2, 2⟩, [26984]⟩]).length = 2 := by
    unfold payH
    rw [ia_last, cnt7_small (by decide), cnt7_small (by decide)]
    rfl
  have n1 : numL [2, 10] 0 = 0 := by decide +kernel
  have n2 : numL [2, 10] 2 = 1 := by decide +kernel
  have n3 : vnum [2, 10] 4294967295 = 3 := by decide +kernel
  have p1 : payB [2, 10] ⟨⟨1, 1, 0, 0, 1⟩, [4294967295]⟩ = [3] := by
    show valsB [2, 10] [4294967295] = [3]
    rw [valsB_map, List.map_cons, List.map_nil, n3, List.flatMap_cons, List.flatMap_nil, cnt7_small (by decide)]
    rfl
  have p2 : payB [2, 10] ⟨⟨1, 2, 2, 2, 2⟩, [26984]⟩ = [104, 105] := by decide +kernel
  have e1 : (objsB [2, 10] [⟨⟨1, 1, 0, 0, 1⟩, [4294967295]⟩, ⟨⟨1, 2, 2, 2, 2⟩, [26984]⟩]).length = 11 := by
    unfold objsB
    rw [List.flatMap_cons, List.flatMap_cons, List.flatMap_nil]
    unfold objB'
    simp only [p1, p2, n1, n2, cnt7_small (show 0 < 128 by decide), cnt7_small (show 1 < 128 by decide), cnt7_small (show 2 < 128 by decide), List.length_append, List.length_cons, List.length_nil]
  have e2 : (valsB [2, 10] ia4.roots).length = 64 := by
    rw [valsB_map, flat_small, List.length_map, ia_roots]
    · rfl
    · rw [ia_roots]
      decide +kernel
  unfold HM.newI
  rw [hL]
  simp only [List.length_append, secI_len, e0, e1, e2, List.length_nil, List.length_cons, cnt7_small (show 2 < 128 by decide), cnt7_small (show 11 < 128 by decide), cnt7_small (show 64 < 128 by decide), cnt7_small (show 0 < 128 by decide)]
theorem hi_reads (w : World) (t : TypeId) (r : Nat × Nat) : Reads (w.alloc (.cells #[.int .u8 104, .int .u8 105] t r)) (w.alloc (.cells #[.int .u8 104, .int .u8 105] t r)).heap.size 1 (some ⟨w.heap.size, 0, none⟩) 2 (u8c [104, 105]) :=
  ⟨rfl, fun _ => ⟨_, rfl, by simp, fun j u hj => by
    rw [WideShapes.add_plain, Nat.zero_add, World.cell?_alloc_mark]
    simpa [u8c] using hj⟩⟩
theorem HM.size_self {h : HM} {n : Nat} (e : h.size = n) : ({ h with size := n } : HM) = h := by subst e; rfl
set_option maxRecDepth 100000 in
set_option maxHeartbeats 4000000 in
theorem iawake_any (W : World) (E : Env W) : Calls Tryz.prog 16 #[] W (Told (.bool true) W) := by
  have HE := Lib.hid E; clear E
  have kc := fun (w : World) (C : Array Value) (n c : Nat) => Lib.run_convert_bytes_const (P := Tryz.prog) w 22 5 C n c Tryz.underlying22 Tryz.underlying5
  go_enter Tryz.func16, Tryz.ntmps16
  go_wp2_with fail
  refine (new_any 64 (by decide) (by decide) _).mono ?_
  rintro e w1 hN
  obtain ⟨p, g, rfl, L0⟩ := Live.of_new (v := fun g => .tuple #[ptr g, .int .i64 0]) HE.out (by decide) (by decide) hN
  replace L0 : Live W w1 p g ia0 := L0
  clear hN
  unfold ptr
  go_wp2_with fail
  refine (inum_any 0 (by decide) _).mono ?_
  rintro e w2 ⟨rfl, rfl⟩
  go_wp2_with fail
  refine (L0.alloc 0 (by decide) 1 1).mono ?_
  rintro e w2 ⟨p1, rfl, L1, -⟩
  rw [ia_f1.1, ia_f1.2]
  replace L1 : Live W w2 p1 g ia1 := L1
  go_wp2_with fail
  refine ((L1.after ((Below.refl _ _).alloc (Nat.le_refl _) _)).make 2 (by decide) _ 2 2 [104, 105] (by decide) (hi_reads w2 _ _) (by decide)).mono ?_
  rintro e w3 ⟨p2, rfl, L2, -⟩
  rw [ia_f2.1, ia_f2.2]
  replace L2 : Live W w3 p2 g ia2 := L2
  go_wp2_with fail
  refine (L2.put 2 (by decide) 0 4294967295 (by decide)).mono ?_
  rintro e w4 ⟨p3, rfl, L3, -⟩
  replace L3 : Live W w4 p3 g ia3 := L3
  go_wp2_with fail
  refine (L3.setRoot 3 10 (by decide)).mono ?_
  rintro e w5 ⟨p4, rfl, L4, -⟩
  replace L4 : Live W w5 p4 g ia4 := L4
  clear L0 L1 L2 L3
  have hS4 := ia_size
  have hN4 := @ia_len
  generalize ia4 = h4 at *
  obtain ⟨l, G4⟩ := L4.good
  have hg4 := L4.hg
  subst hg4
  have HG4 := Lib.hid G4
  have hsv := isave_any L4.at_ G4 L4.envw.spares
  have HL4 := Lib.hid L4
  clear L4 G4
  unfold ptr at hsv
  go_wp2_with fail
  refine hsv.mono ?_
  rintro e w6 ⟨v6, rfl, hown6, hb6⟩
  obtain ⟨A6, c6, rfl, hr6, hc6, ha6⟩ := own_sliceA hown6
  have HL6 := Lib.hid (HL4.out.after hb6)
  have hlen := hN4 HG4.out
  rw [hlen] at hr6 ha6 hc6
  have hld := iload_back (c := c6) HL6.out.envw HG4.out (take_new HG4.out) rfl rfl rfl rfl 64 (by decide) (by decide) (by have := HG4.out.fit.room; rw [hS4] at this; exact this) hr6 ha6 hc6 (by decide) (newI_byte HG4.out)
  rw [HM.size_self (n := (64 : Int).toNat) hS4] at hld
  have HLD := Lib.hid hld
  have HLEN := Lib.hid hlen
  rw [hlen]
  clear hsv hr6 hown6 hb6 HL4 hld hlen ha6 hc6
  go_wp2_with fail
  refine HLD.out.mono ?_
  rintro e w7 ⟨p7, rfl, L7⟩
  have HL7 := Lib.hid (HL6.out.after L7.below)
  have HX7 := Lib.hid L7
  clear L7 HLD HL6
  unfold ptr
  go_wp2_with fail
  refine (inum_any 0 (by decide) _).mono ?_
  rintro e w8 ⟨rfl, rfl⟩
  go_wp2_with fail
  refine (inum_any 0 (by decide) _).mono ?_
  rintro e w8 ⟨rfl, rfl⟩
  have hsm := HL7.out.same HX7.out
  rw [sameH_self] at hsm
  have HSM := Lib.hid hsm
  clear hsm
  go_wp2_with fail
  refine HSM.out.mono ?_
  rintro e w8 ⟨rfl, hb8⟩
  have HB8 := Lib.hid (below_top HL7.out.below hb8)
  clear hb8
  go_wp2_with fail
  go_ret
  exact ⟨rfl, HB8.out⟩
end Go.Proofs.YtfpleoblehfhbaaGreatDoor

namespace Go.Proofs.YtfpleoblehfhbaaGreatDoor
section
variable {h : HM} {l : List Ob}
/-- The payloads of an image of version 2, and where the sections begin. -/
def payK (h : HM) (l : List Ob) (k : Nat) : List Nat := if k = 0 then payH h l else if k = 1 then objsB (oopsL l) l else valsB (oopsL l) h.roots
def tagK (k : Nat) : Nat := if k = 0 then 72 else if k = 1 then 79 else 82
def secLen (p : List Nat) : Nat := 1 + (cnt7 p.length).length + (p.length + 4)
def posK (h : HM) (l : List Ob) : Nat → Nat
  | 0 => 5
  | k + 1 => posK h l k + secLen (payK h l k)
theorem secI_len' (tag : Nat) (p : List Nat) : (secI tag p).length = secLen p := by rw [secI_len]; unfold secLen; omega
theorem payK_byte (G : h.Good l) (k : Nat) : ∀ x ∈ payK h l k, x < 256 := by
  obtain ⟨h1, h2, h3⟩ := pay_bytes G
  unfold payK
  split
  · exact h1
  · split
    · exact h2
    · exact h3
theorem payK_len (G : h.Good l) (k : Nat) : (payK h l k).length ≤ 6291456 := by
  obtain ⟨h1, h2, h3⟩ := pay_lens G
  unfold payK
  split
  · omega
  · split <;> omega
/-- An image of version 2 round one of its payloads. -/
theorem newI_mid (G : h.Good l) (k : Nat) (hk : k < 3) : ∃ pre post : List Nat, h.newI l = (pre ++ ([tagK k] ++ cnt7 (payK h l k).length)) ++ payK h l k ++ post ∧ pre.length = posK h l k ∧ 4 ≤ post.length ∧
    ∀ p' : List Nat, p'.length = (payK h l k).length → (∀ x ∈ p', x < 256) → sumN (tagK k :: p') ≠ sumN (tagK k :: payK h l k) → takeR ((pre ++ ([tagK k] ++ cnt7 (payK h l k).length)) ++ p' ++ post) = .error 144 := by
  obtain ⟨g1, g2, g3⟩ := pay_bytes G
  have hlen := newI_len G
  have key : ∀ p', ((pre : List Nat) → (post : List Nat) → (tag : Nat) → (p : List Nat) → (pre ++ ([tag] ++ cnt7 p.length)) ++ p' ++ post = pre ++ ([tag] ++ (cnt7 p.length ++ (p' ++ post)))) := fun p' pre post tag p => by simp
  rcases (by omega : k = 0 ∨ k = 1 ∨ k = 2) with rfl | rfl | rfl
  · have e : h.newI l = [69, 70, 73, 71, 2] ++ (secI 72 (payH h l) ++ (secI 79 (objsB (oopsL l) l) ++ (secI 82 (valsB (oopsL l) h.roots) ++ secI 90 []))) := rfl
    refine ⟨[69, 70, 73, 71, 2], four4 (sumN (72 :: payH h l)) ++ (secI 79 (objsB (oopsL l) l) ++ (secI 82 (valsB (oopsL l) h.roots) ++ secI 90 [])), ?_, rfl, by simp [four4], fun p' hl h8 hs => ?_⟩
    · rw [e, key]
      show _ = [69, 70, 73, 71, 2] ++ ([72] ++ (cnt7 (payH h l).length ++ (payH h l ++ _)))
      rw [show secI 72 (payH h l) = [72] ++ (cnt7 (payH h l).length ++ (payH h l ++ four4 (sumN (72 :: payH h l)))) from rfl]
      simp only [List.append_assoc]
    · rw [key]
      show takeR ([69, 70, 73, 71, 2] ++ ([72] ++ (cnt7 (payH h l).length ++ (p' ++ _)))) = _
      rw [show [72] ++ (cnt7 (payH h l).length ++ (p' ++ (four4 (sumN (72 :: payH h l)) ++ (secI 79 (objsB (oopsL l) l) ++ (secI 82 (valsB (oopsL l) h.roots) ++ secI 90 []))))) = secD 72 (payH h l) p' ++ (secI 79 (objsB (oopsL l) l) ++ (secI 82 (valsB (oopsL l) h.roots) ++ secI 90 [])) by unfold secD; simp only [List.append_assoc]]
      refine take_bad2 ?_ (new_dmg0 G hl h8 g1 hs _)
      rw [e, List.length_append, List.length_append, secI_len'] at hlen
      rw [List.length_append, secD_mid, List.length_append, List.length_append, List.length_append, show p'.length = (payH h l).length from hl]
      unfold secLen at hlen
      simp only [four4, List.length_cons, List.length_nil] at hlen ⊢
      omega
  · have e : h.newI l = [69, 70, 73, 71, 2] ++ (secI 72 (payH h l) ++ (secI 79 (objsB (oopsL l) l) ++ (secI 82 (valsB (oopsL l) h.roots) ++ secI 90 []))) := rfl
    refine ⟨[69, 70, 73, 71, 2] ++ secI 72 (payH h l), four4 (sumN (79 :: objsB (oopsL l) l)) ++ (secI 82 (valsB (oopsL l) h.roots) ++ secI 90 []), ?_, ?_, by simp [four4], fun p' hl h8 hs => ?_⟩
    · rw [e, key]
      show _ = ([69, 70, 73, 71, 2] ++ secI 72 (payH h l)) ++ ([79] ++ (cnt7 (objsB (oopsL l) l).length ++ (objsB (oopsL l) l ++ _)))
      rw [show secI 79 (objsB (oopsL l) l) = [79] ++ (cnt7 (objsB (oopsL l) l).length ++ (objsB (oopsL l) l ++ four4 (sumN (79 :: objsB (oopsL l) l)))) from rfl]
      simp only [List.append_assoc]
    · rw [List.length_append, secI_len']; rfl
    · rw [key]
      show takeR (([69, 70, 73, 71, 2] ++ secI 72 (payH h l)) ++ ([79] ++ (cnt7 (objsB (oopsL l) l).length ++ (p' ++ _)))) = _
      rw [show [79] ++ (cnt7 (objsB (oopsL l) l).length ++ (p' ++ (four4 (sumN (79 :: objsB (oopsL l) l)) ++ (secI 82 (valsB (oopsL l) h.roots) ++ secI 90 [])))) = secD 79 (objsB (oopsL l) l) p' ++ (secI 82 (valsB (oopsL l) h.roots) ++ secI 90 []) by unfold secD; simp only [List.append_assoc], List.append_assoc]
      refine take_bad2 ?_ (new_dmg1 G hl h8 g2 hs _)
      rw [e, List.length_append, List.length_append, List.length_append, secI_len', secI_len'] at hlen
      rw [List.length_append, List.length_append, secI_len', secD_mid, List.length_append, List.length_append, List.length_append, show p'.length = (objsB (oopsL l) l).length from hl]
      unfold secLen at hlen ⊢
      simp only [four4, List.length_cons, List.length_nil] at hlen ⊢
      omega
  · have e : h.newI l = [69, 70, 73, 71, 2] ++ (secI 72 (payH h l) ++ (secI 79 (objsB (oopsL l) l) ++ (secI 82 (valsB (oopsL l) h.roots) ++ secI 90 []))) := rfl
    refine ⟨[69, 70, 73, 71, 2] ++ (secI 72 (payH h l) ++ secI 79 (objsB (oopsL l) l)), four4 (sumN (82 :: valsB (oopsL l) h.roots)) ++ secI 90 [], ?_, ?_, by simp [four4], fun p' hl h8 hs => ?_⟩
    · rw [e, key]
      show _ = ([69, 70, 73, 71, 2] ++ (secI 72 (payH h l) ++ secI 79 (objsB (oopsL l) l))) ++ ([82] ++ (cnt7 (valsB (oopsL l) h.roots).length ++ (valsB (oopsL l) h.roots ++ _)))
      rw [show secI 82 (valsB (oopsL l) h.roots) = [82] ++ (cnt7 (valsB (oopsL l) h.roots).length ++ (valsB (oopsL l) h.roots ++ four4 (sumN (82 :: valsB (oopsL l) h.roots)))) from rfl]
      simp only [List.append_assoc]
    · rw [List.length_append, List.length_append, secI_len', secI_len']
      show 5 + (secLen (payH h l) + secLen (objsB (oopsL l) l)) = 5 + secLen (payH h l) + secLen (objsB (oopsL l) l)
      omega
    · rw [key]
      show takeR (([69, 70, 73, 71, 2] ++ (secI 72 (payH h l) ++ secI 79 (objsB (oopsL l) l))) ++ ([82] ++ (cnt7 (valsB (oopsL l) h.roots).length ++ (p' ++ _)))) = _
      rw [show [82] ++ (cnt7 (valsB (oopsL l) h.roots).length ++ (p' ++ (four4 (sumN (82 :: valsB (oopsL l) h.roots)) ++ secI 90 []))) = secD 82 (valsB (oopsL l) h.roots) p' ++ secI 90 [] by unfold secD; simp only [List.append_assoc], List.append_assoc, List.append_assoc]
      refine take_bad2 ?_ (new_dmg2 G hl h8 g3 hs _)
      rw [e, List.length_append, List.length_append, List.length_append, List.length_append, secI_len', secI_len', secI_len'] at hlen
      rw [List.length_append, List.length_append, List.length_append, secI_len', secI_len', secD_mid, List.length_append, List.length_append, List.length_append, show p'.length = (valsB (oopsL l) h.roots).length from hl]
      unfold secLen at hlen ⊢
      simp only [four4, List.length_cons, List.length_nil] at hlen ⊢
      omega
theorem tagK_lt (k : Nat) : tagK k < 256 := by
  unfold tagK
  split
  · decide
  · split <;> decide
/-- Bits of a payload flipped. -/
theorem flip_new (G : h.Good l) (k : Nat) (hk : k < 3) {bit change K : Nat} (hK : K ≤ 32) (hb : bit + K ≤ 8 * (payK h l k).length) (hc : change % 2 ^ K ≠ 0) :
    takeR (flipsM (h.newI l) (posK h l k + 1 + (cnt7 (payK h l k).length).length) bit change K) = .error 144 := by
  obtain ⟨pre, post, h1, h2, h3, h4⟩ := newI_mid G k hk
  have hp : (pre ++ ([tagK k] ++ cnt7 (payK h l k).length)).length = posK h l k + 1 + (cnt7 (payK h l k).length).length := by
    rw [List.length_append, List.length_append, h2]; simp; omega
  obtain ⟨m, f1, f2, f3, f4⟩ := flips_mid (pre ++ ([tagK k] ++ cnt7 (payK h l k).length)) (payK h l k) post bit change K hb (payK_byte G k)
  rw [hp] at f1
  rw [h1, f1]
  refine h4 m f2 f4 ?_
  have hlt : change % 2 ^ K < 4294967296 := Nat.lt_of_lt_of_le (Nat.mod_lt _ (Nat.two_pow_pos K)) (by
    rw [show 4294967296 = 2 ^ 32 from rfl]
    exact Nat.pow_le_pow_right (by decide) hK)
  have := sum_dmg (pre := [tagK k]) (mid := payK h l k) (mid' := m) (post := []) (by
    intro x hx
    simp only [List.mem_cons, List.not_mem_nil, or_false] at hx
    subst hx
    exact tagK_lt k) (payK_byte G k) f4 (fun x hx => by cases hx) f2 f3 hlt hc (by omega)
  simpa using this
theorem flip_byte {bs : List Nat} (h8 : ∀ x ∈ bs, x < 256) (fr bit change : Nat) : ∀ K, fr + (bit + K) / 8 ≤ bs.length → ∀ x ∈ flipsM bs fr bit change K, x < 256
  | 0, _ => h8
  | K + 1, hK => by
    have ih := flip_byte h8 fr bit change K (by omega)
    unfold flipsM
    split
    · intro x hx
      rcases List.mem_or_eq_of_mem_set hx with hx | rfl
      · exact ih x hx
      · have h5 : (flipsM bs fr bit change K).getD (fr + (bit + K) / 8) 0 < 256 := by
          rw [List.getD_eq_getElem?_getD]
          cases hh : (flipsM bs fr bit change K)[fr + (bit + K) / 8]? with
          | none => simp
          | some v => simp; exact ih v (List.mem_of_getElem? hh)
        exact Nat.xor_lt_two_pow (n := 8) h5 (Nat.pow_lt_pow_right (by decide) (Nat.mod_lt _ (by decide)))
    · exact ih
theorem flip_len (bs : List Nat) (fr bit change : Nat) : ∀ K, (flipsM bs fr bit change K).length = bs.length
  | 0 => rfl
  | K + 1 => by
    unfold flipsM
    split
    · rw [List.length_set, flip_len bs fr bit change K]
    · exact flip_len bs fr bit change K
theorem flip_old (f : h.Fit) {bit change K : Nat} (hK : K ≤ 32) (hb : bit + K ≤ 8 * (4 * h.words.length)) (hc : change % 2 ^ K ≠ 0) : takeR (flipsM h.oldI 13 bit change K) = .error 144 := by
  have hwl := wordsB_len h.words
  obtain ⟨m, f1, f2, f3, f4⟩ := flips_mid ([69, 70, 73, 71, 1] ++ (four4 h.last ++ four4 h.words.length)) (wordsB h.words) (wordsB h.roots ++ four4 (sumN h.oldB)) bit change K (by rw [hwl]; exact hb) (wordsB_byte _)
  have hp : List.length (([69, 70, 73, 71, 1] : List Nat) ++ (four4 h.last ++ four4 h.words.length)) = 13 := rfl
  rw [← old_mid, hp] at f1
  rw [f1]
  have hlt : change % 2 ^ K < 4294967296 := Nat.lt_of_lt_of_le (Nat.mod_lt _ (Nat.two_pow_pos K)) (by
    rw [show 4294967296 = 2 ^ 32 from rfl]
    exact Nat.pow_le_pow_right (by decide) hK)
  exact old_dmg f f2 f4 f3 hlt hc (by rw [hwl]; omega)
/-- What lies at a section's number. -/
theorem newI_at (G : h.Good l) (k : Nat) (hk : k < 3) : ∃ t : List Nat, (h.newI l).drop (posK h l k + 1) = cnt7 (payK h l k).length ++ t ∧ (payK h l k).length + 4 ≤ t.length := by
  obtain ⟨pre, post, h1, h2, h3, h4⟩ := newI_mid G k hk
  refine ⟨payK h l k ++ post, ?_, by rw [List.length_append]; omega⟩
  rw [h1, show (pre ++ ([tagK k] ++ cnt7 (payK h l k).length)) ++ payK h l k ++ post = (pre ++ [tagK k]) ++ (cnt7 (payK h l k).length ++ (payK h l k ++ post)) by simp only [List.append_assoc],
    show posK h l k + 1 = (pre ++ [tagK k]).length by rw [List.length_append, h2]; rfl, List.drop_left]
end
end Go.Proofs.YtfpleoblehfhbaaGreatDoor

namespace Go.Proofs.YtfpleoblehfhbaaGreatDoor
open Go.RowKit
attribute [local go_sem] Oper.semAt_some
theorem cnt7_len_pos (n : Nat) : 1 ≤ (cnt7 n).length := by
  by_cases h : n < 128
  · rw [cnt7_small h]; simp
  · rw [cnt7_big h]; simp
theorem drop_head {bs : List Nat} {i x : Nat} {t : List Nat} (h : bs.drop i = x :: t) : i < bs.length ∧ bs.getD i 0 = x ∧ bs.drop (i + 1) = t := by
  have h1 : i < bs.length := by
    rcases Nat.lt_or_ge i bs.length with h1 | h1
    · exact h1
    · rw [List.drop_eq_nil_of_le h1] at h; cases h
  rw [List.drop_eq_getElem_cons h1] at h
  injection h with h2 h3
  exact ⟨h1, by rw [List.getD_eq_getElem?_getD, List.getElem?_eq_getElem h1]; simpa using h2, h3⟩
theorem span_f1 {q j v Lk sk sn : Nat} (hv : v < 128) (hj : j ≤ 4) (hq : q + 128 ^ j * v = Lk) (hL : Lk < 4294967296) (hsk : sk ≤ 9000000) (hsn : sn = sk + 1 + j + 1 + (Lk + 4)) :
    ∃ z1 z3 z4 : Nat, wrap64 ((128 : Int) ^ j * ((v : Int) % 128)) = (z1 : Int) ∧ wrap64 ((q : Int) + (z1 : Int)) = (Lk : Int) ∧ wrap64 ((128 : Int) ^ j * 128) = (z3 : Int) ∧ wrap64 ((Lk : Int) + 4) = (z4 : Int) ∧ wrap64 ((sk : Int) + 1 + (j : Int) + 1 + (z4 : Int)) = (sn : Int) := by
  have hpj : 128 ^ j ≤ 128 ^ 4 := Nat.pow_le_pow_right (by decide) hj
  have e1 : (128 : Int) ^ j * ((v : Int) % 128) = ((128 ^ j * v : Nat) : Int) := by
    rw [show (v : Int) % 128 = v by omega]; push_cast; rfl
  have e3 : (128 : Int) ^ j * 128 = ((128 ^ j * 128 : Nat) : Int) := by push_cast; rfl
  refine ⟨128 ^ j * v, 128 ^ j * 128, Lk + 4, ?_, ?_, ?_, ?_, ?_⟩
  · rw [e1]; exact IntWalk.wrap64_in _ (by omega)
  · exact (IntWalk.wrap64_in _ (by omega)).trans (by omega)
  · rw [e3]; exact IntWalk.wrap64_in _ (by omega)
  · exact (IntWalk.wrap64_in _ (by omega)).trans (by omega)
  · exact (IntWalk.wrap64_in _ (by omega)).trans (by omega)
theorem span_f2 {q j v Lk : Nat} (hv : ¬ v < 128) (hj : j ≤ 4) (hq : q + 128 ^ j * v = Lk) (hL : Lk < 4294967296) :
    ∃ z1 z2 z3 : Nat, wrap64 ((128 : Int) ^ j * (((v % 128 + 128 : Nat) : Int) % 128)) = (z1 : Int) ∧ wrap64 ((q : Int) + (z1 : Int)) = (z2 : Int) ∧ wrap64 ((128 : Int) ^ j * 128) = (z3 : Int) ∧ z3 = 128 ^ (j + 1) ∧ z2 + 128 ^ (j + 1) * (v / 128) = Lk := by
  have hpj : 128 ^ j ≤ 128 ^ 4 := Nat.pow_le_pow_right (by decide) hj
  have hv2 : v % 128 + 128 * (v / 128) = v := by omega
  have hq2 : (q + 128 ^ j * (v % 128)) + 128 ^ (j + 1) * (v / 128) = Lk := by
    rw [Nat.pow_succ, Nat.mul_assoc, Nat.add_assoc, ← Nat.mul_add, hv2, hq]
  have hle : q + 128 ^ j * (v % 128) ≤ Lk := by rw [← hq2]; exact Nat.le_add_right _ _
  have e1 : (128 : Int) ^ j * (((v % 128 + 128 : Nat) : Int) % 128) = ((128 ^ j * (v % 128) : Nat) : Int) := by
    rw [show ((v % 128 + 128 : Nat) : Int) % 128 = ((v % 128 : Nat) : Int) by omega]; push_cast; rfl
  have e3 : (128 : Int) ^ j * 128 = ((128 ^ j * 128 : Nat) : Int) := by push_cast; rfl
  refine ⟨128 ^ j * (v % 128), q + 128 ^ j * (v % 128), 128 ^ j * 128, ?_, ?_, ?_, by rw [Nat.pow_succ], hq2⟩
  · rw [e1]
    clear hq2 hq e1 e3
    exact IntWalk.wrap64_in _ (by omega)
  · clear hq2 hq e1 e3
    exact (IntWalk.wrap64_in _ (by omega)).trans (by omega)
  · rw [e3]; exact IntWalk.wrap64_in _ (by omega)
set_option maxRecDepth 100000 in
set_option maxHeartbeats 4000000 in
theorem span_any {w : World} {n c : Nat} {A : Option Addr} {bs : List Nat} (hr : Reads w w.heap.size 1 A n (u8c bs)) (hn : n ≤ 9000000) (h8 : ∀ x ∈ bs, x < 256) (s L : Nat → Nat) (W : Nat) (hW : W < 3) (h0 : s 0 = 5)
    (hs : ∀ k, k ≤ W → ∃ t : List Nat, bs.drop (s k + 1) = cnt7 (L k) ++ t ∧ L k + 4 ≤ t.length) (hL : ∀ k, L k < 4294967296) (hss : ∀ k, s (k + 1) = s k + 1 + (cnt7 (L k)).length + (L k + 4)) :
    Calls Tryz.prog 18 #[.slice A n c, .int .i64 W] w (Told (.tuple #[.int .i64 (s W + 1 + (cnt7 (L W)).length : Nat), .int .i64 (L W : Nat)]) w) := by
  have hbl : bs.length = n := by have := hr.1; rw [u8c_len] at this; omega
  have HBL := Lib.hid hbl
  have HR := Lib.hid hr
  have H8 := Lib.hid h8
  have HS := Lib.hid hs
  have HL := Lib.hid hL
  have HSS := Lib.hid hss
  have H0 := Lib.hid h0
  clear hbl hr h8 hs hL hss
  go_enter Tryz.func18, Tryz.ntmps18
  go_wp2_with fail
  go_loopw [6, 7, 8, 9, 10] (fun a i _ _ _ wr => ∃ k : Nat, k ≤ W ∧ a = .int .i64 (s k : Nat) ∧ i = .int .i64 k ∧ Below w.heap.size w wr) (fun _ i _ _ _ _ => W + 1 - (intOf i).toNat)
  case atStart => exact ⟨0, by omega, by rw [h0]; rfl, rfl, Below.refl _ _⟩
  case round =>
    obtain ⟨k, hk, rfl, rfl, hb⟩ := hrel
    obtain ⟨t, ht, htl⟩ := HS.out k hk
    have HB := Lib.hid hb
    have HT := Lib.hid ht
    have HTL := Lib.hid htl
    have hlen : s k + 1 + (cnt7 (L k)).length + t.length = n := by
      have := congrArg List.length ht
      rw [List.length_drop, List.length_append, HBL.out] at this
      have h5 : 1 ≤ (cnt7 (L k)).length := cnt7_len_pos _
      omega
    have HN := Lib.hid hlen
    clear hb ht htl hlen h0
    have hsk : s k ≤ 9000000 := by have := HN.out; omega
    generalize hsv : s k = sk at *
    have HSV := Lib.hid hsv
    clear hsv
    go_wp2_with fail
    go_loopw [6, 8, 9, 10] (fun a m sc _ wr => ∃ j v q : Nat, a = .int .i64 ((sk + 1 + j : Nat) : Int) ∧ m = .int .i64 ((q : Nat) : Int) ∧ sc = .int .i64 ((128 ^ j : Nat) : Int) ∧ bs.drop (sk + 1 + j) = cnt7 v ++ t ∧ q + 128 ^ j * v = L k ∧ (cnt7 v).length + j = (cnt7 (L k)).length ∧ Below w.heap.size w wr) (fun a _ _ _ _ => sk + 20 - (intOf a).toNat)
    case atStart => exact ⟨0, L k, 0, by go_num, rfl, rfl, HT.out, by simp, by simp, HB.out⟩
    case round =>
      obtain ⟨j, v, q, rfl, rfl, rfl, hd, hq, hcl, hb⟩ := hrel
      have hj4 : j ≤ 4 := by
        have h5 : 1 ≤ (cnt7 v).length := cnt7_len_pos _
        have h6 := cnt7_len_le (HL.out k)
        omega
      have hlt : sk + 1 + j < n := by
        have h5 : 1 ≤ (cnt7 v).length := cnt7_len_pos _
        have := HN.out
        omega
      have HD := Lib.hid hd
      have HQ := Lib.hid hq
      have HCL := Lib.hid hcl
      have HB2 := Lib.hid hb
      have HLT := Lib.hid hlt
      obtain ⟨ad, u, hA, hbl, hu, hc⟩ := (HR.out.below hb).at_ hlt
      subst hA
      rw [u8c_get (by rw [HBL.out]; exact hlt)] at hu
      injection hu with hu
      subst hu
      have hlt' : ((sk + 1 + j : Nat) : Int) < (n : Int) := by omega
      clear hd hq hcl hb hbl
      by_cases hv : v < 128
      · have h1 := HD.out
        rw [cnt7_small hv] at h1
        obtain ⟨-, hx, hrest⟩ := drop_head h1
        rw [hx] at hc
        have hcv := HCL.out
        rw [cnt7_small hv] at hcv
        simp only [List.length_cons, List.length_nil] at hcv
        have hL4 := HL.out k
        have hq' := HQ.out
        have hN := HN.out
        have hTL := HTL.out
        have hsn := HSS.out k
        rw [HSV.out] at hsn
        have hge : decide ((n : Int) ≤ (sk : Int) + 1 + (j : Int) + 1) = false := decide_eq_false (by omega)
        have HA := Lib.hid (show sk + 1 + j + 1 = sk + 1 + (cnt7 (L k)).length by omega)
        have HF := Lib.hid (span_f1 (sk := sk) (sn := s (k + 1)) hv hj4 hq' hL4 hsk (by omega))
        clear h1 hx hrest hq' hcv hL4 hN hTL hsn
        by_cases hkW : k = W
        · subst hkW
          have hkk : ((k : Int) == (k : Int)) = true := by simp
          obtain ⟨z1, z3, z4, w1, w2, w3, w4, w5⟩ := HF.out
          go_wp2_with fail
          go_ret2
          exact ⟨by rw [HSV.out, ← HA.out]; simp [w1, w2], HB2.out⟩
        · have hkk : ((k : Int) == (W : Int)) = false := by simp; omega
          go_wp2_with fail
          go_roundw
          case rel =>
            refine ⟨k + 1, by omega, ?_, by go_num, HB2.out⟩
            obtain ⟨z1, z3, z4, w1, w2, w3, w4, w5⟩ := HF.out
            rw [← w5, ← w4, ← w2, ← w1]
          case measure => simp [intOf]; omega
      · have h1 := HD.out
        rw [cnt7_big hv, List.cons_append] at h1
        obtain ⟨-, hx, hrest⟩ := drop_head h1
        rw [hx] at hc
        have hcv := HCL.out
        rw [cnt7_big hv] at hcv
        simp only [List.length_cons] at hcv
        have hL4 := HL.out k
        have hq' := HQ.out
        have HF := Lib.hid (span_f2 hv hj4 hq' hL4)
        generalize hxv : v % 128 + 128 = xv at *
        have hxb : xv < 256 := by omega
        have hxd : decide ((xv : Int) < 128) = false := decide_eq_false (by omega)
        have hxd2 : decide (xv < 128) = false := decide_eq_false (by omega)
        have HRE := Lib.hid hrest
        have HCV := Lib.hid hcv
        clear h1 hx hrest hq' hcv hL4 hxv
        obtain ⟨z1, z2, z3, w1, w2, w3, hz3, hz2⟩ := HF.out
        have HZ := Lib.hid (And.intro hz3 hz2)
        clear hz3 hz2
        go_wp2_with fail
        go_roundw
        case rel => exact ⟨j + 1, v / 128, z2, by clear w1 w2 w3; go_num, by rw [← w2, ← w1], by rw [← HZ.out.1, w3], HRE.out, HZ.out.2, by clear w1 w2 w3; have := HCV.out; omega, HB2.out⟩
        case measure => clear w1 w2 w3; simp [intOf]; omega
end Go.Proofs.YtfpleoblehfhbaaGreatDoor
