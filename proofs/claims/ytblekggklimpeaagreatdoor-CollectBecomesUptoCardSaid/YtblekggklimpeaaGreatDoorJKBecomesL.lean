/- CollectBecomes, walked: it answers true. Printed by wip/src/XKBecomesL.py. -/
import Derived.Test.YtblekggklimpeaaGreatDoorJKAgainL
import Derived.Test.YtblekggklimpeaaGreatDoorJKBecome
import Derived.Test.YtblekggklimpeaaGreatDoorJKRPairs
import Derived.Test.YtblekggklimpeaaGreatDoorJKRNm
import Derived.Test.YtblekggklimpeaaGreatDoorJKBuilt
import Derived.Deep.RegionHeld3
import Derived.BigQuiet
set_option linter.unusedVariables false
set_option linter.unusedSimpArgs false
namespace Go.Proofs.YtblekggklimpeaaGreatDoor
open Go.RowKit Go.Sort
attribute [local go_sem] Oper.semAt_some
/-- What the document's renaming makes is what the program's exchange leaves. -/
theorem renO_nil (o : Nat) : renO [] o = o := rfl
theorem renH_nil {h : HM} {l : List Ob} (G : h.Good l) : renH (renO []) h l = h := by
  have hw := G.laid.words
  have e1 : l.map (ren (renO [])) = l := ren_id renO_nil
  have e2 : h.roots.map (renO []) = h.roots := by
    conv => rhs; rw [← List.map_id h.roots]
    exact List.map_congr_left fun o _ => rfl
  unfold renH
  rw [e1, e2, ← hw]
theorem prs_ren {h : HM} {l : List Ob} (G : h.Good l) {a b : List Nat} (hl : a.length = b.length → True) : becH h l a b = renH (renO (prsL h true a b)) h l := by
  unfold becH prsL
  have e : becE h a b = prsE h true a b := rfl
  rw [← e]
  by_cases he : becE h a b = 0
  · rw [if_pos he, if_pos he]
    have hlen := (fits_ok (h := h) (a := a) (b := b) (by
      unfold becE at he
      by_cases hf : fitsE h a b = 0
      · exact hf
      · rw [if_neg hf] at he; exact absurd he hf)).1
    unfold prsK
    rw [if_pos rfl, List.take_length, hlen, List.take_length]
  · rw [if_neg he, if_neg he, renH_nil G]
theorem prs_renF {h : HM} {l : List Ob} (G : h.Good l) {a b : List Nat} : fwdH h l a b = renH (renO (prsL h false a b)) h l := by
  unfold fwdH prsL
  have e : fwdE h a b = prsE h false a b := rfl
  rw [← e]
  by_cases he : fwdE h a b = 0
  · rw [if_pos he, if_pos he]
    have hlen := (fits_ok (h := h) (a := a) (b := b) (by
      unfold fwdE at he
      by_cases hf : fitsE h a b = 0
      · exact hf
      · rw [if_neg hf] at he; exact absurd he hf)).1
    unfold prsK
    rw [if_neg (by decide), List.take_length, hlen, List.take_length]
  · rw [if_neg he, if_neg he, renH_nil G]
theorem prs_lt {h : HM} {l : List Ob} (G : h.Good l) {both : Bool} {a b : List Nat} : ∀ o, o < 4294967296 → renO (prsL h both a b) o < 4294967296 := by
  unfold prsL
  split
  · rename_i he
    have hf : fitsE h a b = 0 := by
      unfold prsE at he
      by_cases hf : fitsE h a b = 0
      · exact hf
      · rw [if_neg hf] at he; exact absurd he hf
    obtain ⟨hlen, h1, h2⟩ := fits_ok hf
    refine (renOk_of G (pl := prsK both a b a.length) fun q hq => ?_).lt
    unfold prsK at hq
    split at hq
    · rw [List.take_length, hlen, List.take_length] at hq
      rcases pairsB_mem hq with e | e
      · exact h2 _ e.2
      · exact h1 _ e.2
    · rw [List.take_length, hlen, List.take_length] at hq
      exact h2 _ (List.of_mem_zip hq).2
  · exact fun o ho => ho
theorem prsL_len {h : HM} {both : Bool} {a b : List Nat} (hl : a.length ≤ 1048576) : (prsL h both a b).length ≤ 9223372036854775807 := by
  unfold prsL
  split
  · have := prsK_len both a b a.length
    omega
  · exact Nat.zero_le _
/-- What stays beside the heaps that are worked on. -/
structure BkS (W w : World) (k : Cs) (b13 B3 : Nat) (A5 A6 : Option Addr) (c5 c6 n1 n2 : Nat) (a b : List Nat) : Prop where
  x3 : Blk w W.heap.size 26 k.cells
  x13 : Blk w b13 32 #[.slice k.A k.n k.c, .slice k.A' k.n' k.c']
  low : Below W.heap.size W w
  k5 : w.ownsRow B3 43 1 (.slice A5 n1 c5) n1 (u32s a)
  k6 : w.ownsRow B3 43 1 (.slice A6 n2 c6) n2 (u32s b)
theorem BkS.below {W w w' : World} {k : Cs} {b13 B3 : Nat} {A5 A6 : Option Addr} {c5 c6 n1 n2 : Nat} {a b : List Nat} (K : BkS W w k b13 B3 A5 A6 c5 c6 n1 n2 a b) (hb : Below w.heap.size w w') : BkS W w' k b13 B3 A5 A6 c5 c6 n1 n2 a b :=
  ⟨K.x3.below hb K.x3.lt, K.x13.below hb K.x13.lt, below_top K.low hb, own_below K.k5 hb, own_below K.k6 hb⟩
theorem BkS.step {W w w' : World} {k : Cs} {b13 B3 : Nat} {A5 A6 : Option Addr} {c5 c6 n1 n2 : Nat} {a b : List Nat} {p p' : HP} (K : BkS W w k b13 B3 A5 A6 c5 c6 n1 n2 a b) (s : Step p p' w w') (hp : ∀ j, p.has j → W.heap.size < j ∧ j < B3) (h13 : B3 ≤ b13) : BkS W w' k b13 B3 A5 A6 c5 c6 n1 n2 a b :=
  ⟨K.x3.same (s.block _ K.x3.lt (fun e => by have := (hp _ e).1; omega)), K.x13.same (s.block _ K.x13.lt (fun e => by have := (hp _ e).2; omega)), K.low.trans ⟨s.os, s.tape, s.output, s.size, fun j hj => s.block j (by have := K.low.size; omega) (fun e => by have := (hp _ e).1; omega)⟩,
    own_keep K.k5 (fun j hj => s.block j (K.k5.lt j hj).2 (fun e => by have := (hp _ e).2; have := (K.k5.lt j hj).1; omega)), own_keep K.k6 (fun j hj => s.block j (K.k6.lt j hj).2 (fun e => by have := (hp _ e).2; have := (K.k6.lt j hj).1; omega))⟩
set_option maxRecDepth 100000 in
set_option maxHeartbeats 8000000 in
theorem becomesL_any (W : World) (E : Env W) (k : Cs) (hk : k.At W W.heap.size) (A1 : Option Addr) (n1 c1 : Nat) (a : List Nat) (_ : n1 ≤ 9223372036854775807) (hr1 : Reads W W.heap.size 1 A1 n1 (u32s a)) (ha32 : ∀ y ∈ a, y < 4294967296) (hn1 : n1 ≤ 1048576)
    (A2 : Option Addr) (n2 c2 : Nat) (b : List Nat) (_ : n2 ≤ 9223372036854775807) (hr2 : Reads W W.heap.size 1 A2 n2 (u32s b)) (hb32 : ∀ y ∈ b, y < 4294967296) (hn2 : n2 ≤ 1048576) :
    Calls Tryz.prog 3 #[k.agg, .slice A1 n1 c1, .slice A2 n2 c2] W (Told (.bool true) W) := by
  have la : a.length = n1 := by have := hr1.1; rw [u32s_len] at this; omega
  have lb : b.length = n2 := by have := hr2.1; rw [u32s_len] at this; omega
  have HLN := Lib.hid (And.intro la lb)
  have HRD := Lib.hid (fun (w' : World) (hbw : Below W.heap.size W w') => And.intro ((hr1.below hbw).more hbw.size) ((hr2.below hbw).more hbw.size))
  have H32 := Lib.hid (And.intro ha32 hb32)
  have HKW := Lib.hid hk
  clear la lb hr1 hr2 ha32 hb32
  have hb1 := (Below.refl W.heap.size W).alloc (Nat.le_refl _) (.cells k.cells 26)
  have B1 := Blk.new W 26 k.cells
  have HB1 := Lib.hid hb1
  have HBX := Lib.hid B1
  have HE := Lib.hid (E.below hb1)
  have HK := Lib.hid (hk.below hb1)
  have HBU := Lib.hid (fun (w : World) (E : Env w) (hk : k.At w w.heap.size) => built_any w E k hk)
  have HAW := Lib.hid (fun (w : World) (E : Env w) => awake_any w E)
  have hsz := World.size_alloc W (.cells k.cells 26)
  clear hb1 B1 E hk
  unfold Cs.cells at HB1 HBX HE HK HBU hsz
  unfold Cs.agg at HBU ⊢
  go_enter Tryz.func3, Tryz.ntmps3
  obtain ⟨x0, x1, x2, x3⟩ := cells4K HBX.out
  go_wp2_with fail
  clear x0 x1 x2 x3
  generalize W.alloc (.cells #[.int .i64 k.size, .slice k.A k.n k.c, .slice k.A' k.n' k.c', .int .u32 (k.last : Nat)] 26) = W1 at *
  refine (HBU.out W1 HE.out HK.out).mono ?_
  rintro e w1 (⟨hno, ⟨v, rfl⟩, hb⟩ | ⟨hok, p, g, rfl, L, hws, hrs⟩)
  · have HB2 := Lib.hid (below_top HB1.out hb)
    have HE2 := Lib.hid (HE.out.below hb)
    have HK2 := Lib.hid (HK.out.below hb)
    have HX2 := Lib.hid (HBX.out.below hb HBX.out.lt)
    obtain ⟨x0, x1, x2, x3⟩ := cells4K HX2.out
    clear hb hno
    go_wp2_with fail
    refine (HBU.out w1 HE2.out HK2.out).mono ?_
    rintro e w2 hbu
    obtain ⟨v2, bv, rfl, hb2⟩ : ∃ v2 bv, e = .returned (.tuple #[v2, .bool bv]) ∧ Below w1.heap.size w1 w2 := by
      rcases hbu with ⟨_, ⟨v, rfl⟩, hb⟩ | ⟨_, p, g, rfl, L, _⟩
      · exact ⟨_, _, rfl, hb⟩
      · exact ⟨_, _, rfl, L.below⟩
    have HB3 := Lib.hid (below_top HB2.out hb2)
    have HE3 := Lib.hid (HE2.out.below hb2)
    clear hbu hb2 x0 x1 x2 x3 HBU
    go_wp2_with fail
    refine (HAW.out _ HE3.out).mono ?_
    rintro e w3 ⟨rfl, hb3⟩
    have HB4 := Lib.hid (below_top HB3.out hb3)
    clear hb3
    go_wp2_with fail
    go_ret
    exact ⟨rfl, HB4.out⟩
  · have HL := Lib.hid L
    obtain ⟨l, G⟩ := L.good
    have HG := Lib.hid G
    have HB2 := Lib.hid (below_top HB1.out L.below)
    have HX2 := Lib.hid (HBX.out.below L.below HBX.out.lt)
    have HK2 := Lib.hid (HK.out.below L.below)
    have HOK := Lib.hid hok
    have HBB := Lib.hid (HBU.out w1 L.envw (HK.out.below L.below))
    obtain ⟨x0, x1, x2, x3⟩ := cells4K HX2.out
    have HWS := Lib.hid (And.intro hws hrs)
    clear L G hws hrs hok HBU HBX HK
    go_wp2_with fail
    refine HBB.out.mono ?_
    rintro e w2 (⟨hno, _⟩ | ⟨_, q, gq, rfl, Lq, _, _⟩)
    · exact absurd HOK.out hno
    have HQ2 := Lib.hid (Lq.rebase HL.out.below HE.out)
    have HD := Lib.hid (show ∀ j, p.has j → j < w1.heap.size from fun j hj => HL.out.at_.lt hj)
    have HDq := Lib.hid (show ∀ j, q.has j → w1.heap.size ≤ j from fun j hj => Lq.new j hj)
    have HL2 := Lib.hid (HL.out.after Lq.below)
    have HB3 := Lib.hid (below_top HB2.out Lq.below)
    have HEV := Lib.hid HL2.out.envw
    have HX3 := Lib.hid (HX2.out.below Lq.below HX2.out.lt)
    clear Lq HBB x0 x1 x2 x3 HX2 HK2 HL
    go_wp2_with fail
    refine (HAW.out _ HEV.out).mono ?_
    rintro e w3 ⟨rfl, hb3⟩
    have HL3 := Lib.hid (HL2.out.after hb3)
    have HQ3 := Lib.hid (HQ2.out.after hb3)
    have HB4 := Lib.hid (below_top HB3.out hb3)
    have HX4 := Lib.hid (HX3.out.below hb3 HX3.out.lt)
    have HZ3 := Lib.hid (show w1.heap.size ≤ w3.heap.size from by have h1 := HQ3.out.at_.lt (show q.has q.g from .inl rfl); have h2 := HDq.out q.g (.inl rfl); omega)
    have HZ1 := Lib.hid (show W.heap.size < W1.heap.size from by have := hsz; omega)
    have HPP := Lib.hid (show (∀ j, p.has j → W.heap.size < j ∧ j < w3.heap.size) ∧ ∀ j, q.has j → W.heap.size < j ∧ j < w3.heap.size from
      ⟨fun j hj => ⟨by have h1 := HL3.out.new j hj; have := HZ1.out; omega, by have h1 := HD.out j hj; have := HZ3.out; omega⟩, fun j hj => ⟨by have h1 := HQ3.out.new j hj; have := HZ1.out; omega, HQ3.out.at_.lt hj⟩⟩)
    have ra3 := (HRD.out w3 HB4.out).1
    have hzw3 := HB4.out.size
    obtain ⟨k0, hk0, hy0, hy1, hy2⟩ := info_parts info_oop
    clear hb3 HL2 HQ2 HEV HAW HX3
    go_upto_region 6 with (at_builtin; refine wpList_append_any _ rfl (.const (.slice none 0 0)) (.tmp 37) _ rfl w3.heap.size 43 k0 _ 1 4 Tryz.underlying23 hk0 hy0 hy1 hy2 rfl (by omega) (.slice none 0 0) 0 [] rfl ⟨rfl, .inl ⟨rfl, rfl⟩⟩ w3.heap.size A1 n1 c1 (u32s a) rfl ra3 (one_u32s _) (by simp only [maxLen]; omega) (by omega) (Nat.le_refl _) ?_; intro v5 w5 hown5 hgrow5 hat5; rw [Nat.zero_add, List.nil_append] at hown5; obtain ⟨A5, c5, rfl⟩ := own_val hown5; have HB5 := Lib.hid ((Below.refl w3.heap.size w3).grown hgrow5 (Nat.le_refl _) (fun q e => by cases e)); have HO5 := Lib.hid hown5; clear hown5 hgrow5 hat5)
    have rb5 := (HRD.out w5 (below_top HB4.out HB5.out)).2
    have hz5 := HB5.out.size
    clear ra3
    go_upto_region 7 with (at_builtin; refine wpList_append_any _ rfl (.const (.slice none 0 0)) (.tmp 39) _ rfl w3.heap.size 43 k0 _ 1 4 Tryz.underlying23 hk0 hy0 hy1 hy2 rfl (by omega) (.slice none 0 0) 0 [] rfl ⟨rfl, .inl ⟨rfl, rfl⟩⟩ w5.heap.size A2 n2 c2 (u32s b) rfl rb5 (one_u32s _) (by simp only [maxLen]; omega) (by omega) hz5 ?_; intro v6 w6 hown6 hgrow6 hat6; rw [Nat.zero_add, List.nil_append] at hown6; obtain ⟨A6, c6, rfl⟩ := own_val hown6; have HB6 := Lib.hid ((Below.refl w5.heap.size w5).grown hgrow6 (Nat.le_refl _) (fun q e => by cases e)); have HO6 := Lib.hid hown6; clear hown6 hgrow6 hat6)
    have HW6 := Lib.hid (below_top HB5.out HB6.out)
    have HX6 := Lib.hid (HX4.out.below HW6.out HX4.out.lt)
    obtain ⟨x0, x1, x2, x3⟩ := cells4K HX6.out
    have HST := Lib.hid (store_any k w6)
    unfold StV at HST
    unfold Cs.agg at HST
    clear rb5 hz5 hzw3
    go_wp2_with fail
    refine HST.out.mono ?_
    rintro e w7 ⟨rfl, hb7⟩
    have hb8 := hb7.alloc hb7.size (.cells #[.slice k.A k.n k.c, .slice k.A' k.n' k.c'] 32)
    have HK8 := Lib.hid (show BkS W (w7.alloc (.cells #[.slice k.A k.n k.c, .slice k.A' k.n' k.c'] 32)) k w7.heap.size w3.heap.size A5 A6 c5 c6 n1 n2 a b from
      ⟨HX6.out.below hb8 HX6.out.lt, Blk.new w7 _ _, below_top HB4.out (below_top HW6.out hb8), own_below (own_below HO5.out HB6.out) hb8, own_below HO6.out hb8⟩)
    have HL8 := Lib.hid (HL3.out.after (below_top HW6.out hb8))
    have HQ8 := Lib.hid (HQ3.out.after (below_top HW6.out hb8))
    have H13 := Lib.hid (show w3.heap.size ≤ w7.heap.size from Nat.le_trans HW6.out.size hb7.size)
    clear hb7 hb8 x0 x1 x2 x3 HX6 HX4 HO5 HO6 HB5 HB6 HW6 HL3 HQ3 HST
    go_upto_region 8 with fail
    generalize w7.alloc (.cells #[.slice k.A k.n k.c, .slice k.A' k.n' k.c'] 32) = w8 at *
    generalize w7.heap.size = b13 at *
    have HCC := Lib.hid (fun (w' : World) (K : BkS W w' k b13 w3.heap.size A5 A6 c5 c6 n1 n2 a b) => show w'.cell? ⟨W.heap.size, 0, none⟩ = some (.int .i64 k.size) ∧ w'.cell? ⟨W.heap.size, 1, none⟩ = some (.slice k.A k.n k.c) ∧ w'.cell? ⟨W.heap.size, 2, none⟩ = some (.slice k.A' k.n' k.c') ∧ w'.cell? ⟨W.heap.size, 3, none⟩ = some (.int .u32 (k.last : Nat)) ∧ w'.cell? ⟨b13, 0, none⟩ = some (.slice k.A k.n k.c) ∧ w'.cell? ⟨b13, 1, none⟩ = some (.slice k.A' k.n' k.c') from ⟨K.x3.cell 0, K.x3.cell 1, K.x3.cell 2, K.x3.cell 3, K.x13.cell 0, K.x13.cell 1⟩)
    have HRS := Lib.hid (fun (w' : World) (hKw : BkS W w' k b13 w3.heap.size A5 A6 c5 c6 n1 n2 a b) => show Reads w' w'.heap.size 1 k.A k.n (u32s k.h.words) ∧ Reads w' w'.heap.size 1 k.A' k.n' (u32s k.h.roots) from by
      have h1 := HKW.out.below hKw.low
      rw [HWS.out.1, HWS.out.2]
      exact ⟨h1.hr, h1.hr'⟩)
    have HPT := Lib.hid (rpairsT_any (A' := k.A') (n' := k.n') (c' := k.c') (c := k.c) (c1 := c1) (c2 := c2) HG.out (HRS.out w8 HK8.out).1 (HRD.out w8 HK8.out.low).1 (HRD.out w8 HK8.out.low).2 hn1 hn2 H32.out.1 H32.out.2)
    unfold StV PairsP at HPT
    obtain ⟨s0, s1, s2, s3, s4, s5⟩ := HCC.out w8 HK8.out
    go_wp2_with fail
    refine HPT.out.mono ?_
    rintro e w9 ⟨v9, rfl, hown9, hb9⟩
    obtain ⟨Ap, gp, cp, rfl, hgp, hop⟩ := own_two hown9
    have HOP := Lib.hid hop
    have HGP := Lib.hid (Nat.le_trans HK8.out.low.size hgp)
    have HGP3 := Lib.hid (show w3.heap.size ≤ gp from by have h1 := HK8.out.x13.lt; have h2 := H13.out; omega)
    have HK9 := Lib.hid (HK8.out.below hb9)
    have HL9 := Lib.hid (HL8.out.after hb9)
    have HQ9 := Lib.hid (HQ8.out.after hb9)
    clear hown9 hb9 hop hgp HPT HK8 HL8 HQ8 s0 s1 s2 s3 s4 s5
    go_upto_region 9 with fail
    have HS1 := Lib.hid (show k.size = (k.h.size : Int) from by
      have := HOK.out.1
      show k.size = ((k.size.toNat : Nat) : Int)
      omega)
    have HS2 := Lib.hid (show k.h.words.length ≤ 1048576 ∧ k.h.roots.length = 64 from ⟨by have := HG.out.fit.room; have := HG.out.fit.hi; omega, HG.out.fit.roots⟩)
    obtain ⟨LW, hLW⟩ : ∃ x, k.h.words.length = x := ⟨_, rfl⟩
    obtain ⟨LR, hLR⟩ : ∃ x, k.h.roots.length = x := ⟨_, rfl⟩
    have HLW := Lib.hid hLW
    have HLR := Lib.hid hLR
    clear hLW hLR
    have HPL9 := Lib.hid (show (prsL k.h true a b).length ≤ 9223372036854775807 from prsL_len (by have := HLN.out; omega))
    have hbd : Below w9.heap.size w9 w9.drew := below_drew (Below.refl _ _)
    have HBE := Lib.hid (become_any (c := c1) (c' := c2) (HL9.out.after hbd).at_ HG.out (HL9.out.after hbd).envw.spares (HL9.out.after hbd).far (HRD.out _ (HK9.out.below hbd).low).1 (HRD.out _ (HK9.out.below hbd).low).2 (by omega) (by omega) H32.out.1 H32.out.2)
    rw [HL9.out.hg] at HBE
    unfold ptr DeedP at HBE
    rw [show becE k.h a b = prsE k.h true a b from rfl, prs_ren HG.out (fun _ => trivial)] at HBE
    have HSTP := Lib.hid (fun (wa : World) (s : Step p p w9.drew wa) => (HK9.out.below hbd).step s HPP.out.1 H13.out)
    have HPO := Lib.hid (fun (wa : World) (s : Step p p w9.drew wa) => show 0 < (prsL k.h true a b).length → Ap = some ⟨gp, 0, none⟩ ∧ PlA wa gp (prsL k.h true a b) from fun h0 => ⟨(HOP.out h0).1, ((HOP.out h0).2.same hbd.size (hbd.block _ (HOP.out h0).2.1)).same s.size (s.block _ (Nat.lt_of_lt_of_le (HOP.out h0).2.1 hbd.size) (fun e => by have h1 := (HPP.out.1 _ e).2; have h2 := HGP3.out; omega))⟩)
    have HLS := Lib.hid (fun (wa : World) (Ha : HAt wa p (renH (renO (prsL k.h true a b)) k.h l)) (Ga : (renH (renO (prsL k.h true a b)) k.h l).Good (becL k.h l a b)) (s : Step p p w9.drew wa) => (HL9.out.after hbd).step Ha s ⟨_, Ga⟩)
    have HRN := Lib.hid (fun (w' : World) (K : BkS W w' k b13 w3.heap.size A5 A6 c5 c6 n1 n2 a b) (po : 0 < (prsL k.h true a b).length → Ap = some ⟨gp, 0, none⟩ ∧ PlA w' gp (prsL k.h true a b)) => show Calls Tryz.prog 11 #[.agg #[.slice k.A k.n k.c, .slice k.A' k.n' k.c'], .slice Ap (prsL k.h true a b).length cp] w' (fun e w'' => ∃ gW cW Ar cr, e = .returned (.agg #[.slice (some ⟨gW, 0, none⟩) LW cW, .slice Ar LR cr]) ∧ Reads w'' w''.heap.size 1 (some ⟨gW, 0, none⟩) LW (u32s (renH (renO (prsL k.h true a b)) k.h l).words) ∧ Reads w'' w''.heap.size 1 Ar LR (u32s (renH (renO (prsL k.h true a b)) k.h l).roots) ∧ Below w'.heap.size w' w'') from by
      refine (rren_any HG.out (HRS.out w' K).1 (HRS.out w' K).2 po HPL9.out (prs_lt HG.out)).mono ?_
      rintro e w'' ⟨gW, cW, Ar, nr, cr, he, r1, r2, hnr, hb⟩
      rw [hnr, HLR.out, HLW.out] at he
      rw [HLW.out] at r1
      rw [hnr, HLR.out] at r2
      exact ⟨gW, cW, Ar, cr, he, r1, r2, hb⟩)
    have HIS := Lib.hid (fun (w' : World) (L : Live W1 w' p g (renH (renO (prsL k.h true a b)) k.h l)) (gW cW : Nat) (Ar : Option Addr) (cr : Nat) (r1 : Reads w' w'.heap.size 1 (some ⟨gW, 0, none⟩) LW (u32s (renH (renO (prsL k.h true a b)) k.h l).words)) (r2 : Reads w' w'.heap.size 1 Ar LR (u32s (renH (renO (prsL k.h true a b)) k.h l).roots)) => show Calls Tryz.prog 10 #[.pointer (some ⟨g, 0, none⟩), .agg #[.int .i64 k.size, .slice k.A k.n k.c, .slice k.A' k.n' k.c', .int .u32 (k.last : Nat)], .agg #[.slice (some ⟨gW, 0, none⟩) LW cW, .slice Ar LR cr]] w' (fun e w'' => e = .returned (.bool true) ∧ Below w'.heap.size w' w'') from
      is_yes L k HS1.out rfl (some ⟨gW, 0, none⟩) LW cW (by have := HS2.out; have := HLW.out; omega) r1 Ar LR cr (by have := HS2.out; have := HLR.out; omega) r2)
    obtain ⟨s0, s1, s2, s3, s4, s5⟩ := HCC.out w9 HK9.out
    generalize prsE k.h true a b = EB9 at *
    clear hbd
    go_region_held3 (fun w' => w'.cell? ⟨W.heap.size, 0, none⟩ = some (.int .i64 k.size) ∧ w'.cell? ⟨W.heap.size, 1, none⟩ = some (.slice k.A k.n k.c) ∧ w'.cell? ⟨W.heap.size, 2, none⟩ = some (.slice k.A' k.n' k.c') ∧ w'.cell? ⟨W.heap.size, 3, none⟩ = some (.int .u32 (k.last : Nat)) ∧ w'.cell? ⟨b13, 0, none⟩ = some (.slice k.A k.n k.c) ∧ w'.cell? ⟨b13, 1, none⟩ = some (.slice k.A' k.n' k.c'))
      (first | exact ⟨s0, s1, s2, s3, s4, s5⟩ | exact HCC.out _ (by assumption) | go_keep)
      (first
        | (go_at_call 9; with_reducible refine HBE.out.mono ?_; rintro e wa ⟨rfl, Ha, Ga, Sa⟩; have hKa := HSTP.out _ Sa; have hPa := HPO.out _ Sa; have hLa := HLS.out _ Ha Ga Sa)
        | (go_at_call 11; with_reducible refine (HRN.out _ hKa hPa).mono ?_; rintro e wb ⟨gW, cW, Ar, cr, rfl, rw1, rr1, hbb⟩; have hKb := BkS.below hKa hbb; have hLb := Live.after hLa hbb)
        | (go_at_call 10; with_reducible refine (HIS.out _ hLb _ _ _ _ rw1 rr1).mono ?_; rintro e wc ⟨rfl, hbc⟩; have hKc := BkS.below hKb hbc))
    have HKc := Lib.hid hKc
    have HQc := Lib.hid (show Live W1 wc q gq k.h from ((HQ9.out.after (below_drew (Below.refl _ _))).beside Sa (fun j hj hp => by have h1 := HD.out j hp; have h2 := HDq.out j hj; omega) (fun j hp => HL9.out.new j hp)).after (below_top hbb hbc))
    clear HBE HSTP HPO HLS HRN HIS s0 s1 s2 s3 s4 s5 Ha Ga Sa hKa hPa hLa rw1 rr1 hbb hKb hLb hbc hKc HL9 HQ9 HK9 HOP HGP HGP3 HPL9
    have HPT := Lib.hid (rpairsF_any (A' := k.A') (n' := k.n') (c' := k.c') (c := k.c) (c1 := c1) (c2 := c2) HG.out (HRS.out wc HKc.out).1 (HRD.out wc HKc.out.low).1 (HRD.out wc HKc.out.low).2 hn1 hn2 H32.out.1 H32.out.2)
    unfold StV PairsP at HPT
    obtain ⟨s0, s1, s2, s3, s4, s5⟩ := HCC.out wc HKc.out
    go_wp2_with fail
    refine HPT.out.mono ?_
    rintro e w13 ⟨v13, rfl, hown13, hb13⟩
    obtain ⟨Aq, gpq, cq, rfl, hgp, hop⟩ := own_two hown13
    have HOQ := Lib.hid hop
    have HGQ3 := Lib.hid (show w3.heap.size ≤ gpq from by have h1 := HKc.out.x13.lt; have h2 := H13.out; omega)
    have HPL13 := Lib.hid (show (prsL k.h false a b).length ≤ 9223372036854775807 from prsL_len (by have := HLN.out; omega))
    have HK13 := Lib.hid (HKc.out.below hb13)
    have HQ13 := Lib.hid (HQc.out.after hb13)
    clear hown13 hb13 hop hgp HPT HKc HQc s0 s1 s2 s3 s4 s5
    go_upto_region 12 with fail
    have hbd : Below w13.heap.size w13 w13.drew := below_drew (Below.refl _ _)
    have HBE := Lib.hid (forward_any (c := c1) (c' := c2) (HQ13.out.after hbd).at_ HG.out (HQ13.out.after hbd).envw.spares (HQ13.out.after hbd).far (HRD.out _ (HK13.out.below hbd).low).1 (HRD.out _ (HK13.out.below hbd).low).2 (by omega) (by omega) H32.out.1 H32.out.2)
    rw [HQ13.out.hg] at HBE
    unfold ptr DeedP at HBE
    rw [show fwdE k.h a b = prsE k.h false a b from rfl, prs_renF HG.out] at HBE
    have HSTP := Lib.hid (fun (wa : World) (s : Step q q w13.drew wa) => (HK13.out.below hbd).step s HPP.out.2 H13.out)
    have HPO := Lib.hid (fun (wa : World) (s : Step q q w13.drew wa) => show 0 < (prsL k.h false a b).length → Aq = some ⟨gpq, 0, none⟩ ∧ PlA wa gpq (prsL k.h false a b) from fun h0 => ⟨(HOQ.out h0).1, ((HOQ.out h0).2.same hbd.size (hbd.block _ (HOQ.out h0).2.1)).same s.size (s.block _ (Nat.lt_of_lt_of_le (HOQ.out h0).2.1 hbd.size) (fun e => by have h1 := (HPP.out.2 _ e).2; have h2 := HGQ3.out; omega))⟩)
    have HLS := Lib.hid (fun (wa : World) (Ha : HAt wa q (renH (renO (prsL k.h false a b)) k.h l)) (Ga : (renH (renO (prsL k.h false a b)) k.h l).Good (fwdL k.h l a b)) (s : Step q q w13.drew wa) => (HQ13.out.after hbd).step Ha s ⟨_, Ga⟩)
    have HRN := Lib.hid (fun (w' : World) (K : BkS W w' k b13 w3.heap.size A5 A6 c5 c6 n1 n2 a b) (po : 0 < (prsL k.h false a b).length → Aq = some ⟨gpq, 0, none⟩ ∧ PlA w' gpq (prsL k.h false a b)) => show Calls Tryz.prog 11 #[.agg #[.slice k.A k.n k.c, .slice k.A' k.n' k.c'], .slice Aq (prsL k.h false a b).length cq] w' (fun e w'' => ∃ gW cW Ar cr, e = .returned (.agg #[.slice (some ⟨gW, 0, none⟩) LW cW, .slice Ar LR cr]) ∧ Reads w'' w''.heap.size 1 (some ⟨gW, 0, none⟩) LW (u32s (renH (renO (prsL k.h false a b)) k.h l).words) ∧ Reads w'' w''.heap.size 1 Ar LR (u32s (renH (renO (prsL k.h false a b)) k.h l).roots) ∧ Below w'.heap.size w' w'') from by
      refine (rren_any HG.out (HRS.out w' K).1 (HRS.out w' K).2 po HPL13.out (prs_lt HG.out)).mono ?_
      rintro e w'' ⟨gW, cW, Ar, nr, cr, he, r1, r2, hnr, hb⟩
      rw [hnr, HLR.out, HLW.out] at he
      rw [HLW.out] at r1
      rw [hnr, HLR.out] at r2
      exact ⟨gW, cW, Ar, cr, he, r1, r2, hb⟩)
    have HIS := Lib.hid (fun (w' : World) (L : Live W1 w' q gq (renH (renO (prsL k.h false a b)) k.h l)) (gW cW : Nat) (Ar : Option Addr) (cr : Nat) (r1 : Reads w' w'.heap.size 1 (some ⟨gW, 0, none⟩) LW (u32s (renH (renO (prsL k.h false a b)) k.h l).words)) (r2 : Reads w' w'.heap.size 1 Ar LR (u32s (renH (renO (prsL k.h false a b)) k.h l).roots)) => show Calls Tryz.prog 10 #[.pointer (some ⟨gq, 0, none⟩), .agg #[.int .i64 k.size, .slice k.A k.n k.c, .slice k.A' k.n' k.c', .int .u32 (k.last : Nat)], .agg #[.slice (some ⟨gW, 0, none⟩) LW cW, .slice Ar LR cr]] w' (fun e w'' => e = .returned (.bool true) ∧ Below w'.heap.size w' w'') from
      is_yes L k HS1.out rfl (some ⟨gW, 0, none⟩) LW cW (by have := HS2.out; have := HLW.out; omega) r1 Ar LR cr (by have := HS2.out; have := HLR.out; omega) r2)
    obtain ⟨s0, s1, s2, s3, s4, s5⟩ := HCC.out w13 HK13.out
    generalize prsE k.h false a b = EB13 at *
    clear hbd
    have HE1 := Lib.hid (fun (w' : World) (K : BkS W w' k b13 w3.heap.size A5 A6 c5 c6 n1 n2 a b) => show Calls Tryz.prog 13 #[.slice A1 n1 c1, .slice A5 n1 c5] w' (fun e w'' => e = .returned (.bool true) ∧ Below w'.heap.size w' w'') from by
      have r5 := own_readsV K.k5
      have hh := oops_any A1 A5 n1 n1 c1 c5 a a w' (by omega) r5.2 (HRD.out w' K.low).1 r5.1
      rw [sameL_self] at hh
      exact hh)
    have HE2 := Lib.hid (fun (w' : World) (K : BkS W w' k b13 w3.heap.size A5 A6 c5 c6 n1 n2 a b) => show Calls Tryz.prog 13 #[.slice A2 n2 c2, .slice A6 n2 c6] w' (fun e w'' => e = .returned (.bool true) ∧ Below w'.heap.size w' w'') from by
      have r6 := own_readsV K.k6
      have hh := oops_any A2 A6 n2 n2 c2 c6 b b w' (by omega) r6.2 (HRD.out w' K.low).2 r6.1
      rw [sameL_self] at hh
      exact hh)
    go_region_held3 (fun w' => w'.cell? ⟨W.heap.size, 0, none⟩ = some (.int .i64 k.size) ∧ w'.cell? ⟨W.heap.size, 1, none⟩ = some (.slice k.A k.n k.c) ∧ w'.cell? ⟨W.heap.size, 2, none⟩ = some (.slice k.A' k.n' k.c') ∧ w'.cell? ⟨W.heap.size, 3, none⟩ = some (.int .u32 (k.last : Nat)) ∧ w'.cell? ⟨b13, 0, none⟩ = some (.slice k.A k.n k.c) ∧ w'.cell? ⟨b13, 1, none⟩ = some (.slice k.A' k.n' k.c'))
      (first | exact ⟨s0, s1, s2, s3, s4, s5⟩ | exact HCC.out _ (by assumption) | go_keep)
      (first
        | (go_at_call 12; with_reducible refine HBE.out.mono ?_; rintro e wa ⟨rfl, Ha, Ga, Sa⟩; have hKa := HSTP.out _ Sa; have hPa := HPO.out _ Sa; have hLa := HLS.out _ Ha Ga Sa)
        | (go_at_call 11; with_reducible refine (HRN.out _ hKa hPa).mono ?_; rintro e wb ⟨gW, cW, Ar, cr, rfl, rw1, rr1, hbb⟩; have hKb := BkS.below hKa hbb; have hLb := Live.after hLa hbb)
        | (go_at_call 10; with_reducible refine (HIS.out _ hLb _ _ _ _ rw1 rr1).mono ?_; rintro e wc ⟨rfl, hbc⟩; have hKc := BkS.below hKb hbc)
        | (go_at_call 13; first
          | (with_reducible refine (HE1.out _ hKc).mono ?_; rintro e wd ⟨rfl, hbd1⟩; have hKd := BkS.below hKc hbd1)
          | (with_reducible refine (HE2.out _ hKd).mono ?_; rintro e we ⟨rfl, hbd2⟩; have hKe := BkS.below hKd hbd2)))
    have HF := Lib.hid hKe.low
    clear HBE HSTP HPO HLS HRN HIS s0 s1 s2 s3 s4 s5 Ha Ga Sa hKa hPa hLa rw1 rr1 hbb hKb hLb hbc hKc hKd hKe hbd1 hbd2
    go_wp2_with fail
    go_ret
    exact ⟨rfl, HF.out⟩
end Go.Proofs.YtblekggklimpeaaGreatDoor
