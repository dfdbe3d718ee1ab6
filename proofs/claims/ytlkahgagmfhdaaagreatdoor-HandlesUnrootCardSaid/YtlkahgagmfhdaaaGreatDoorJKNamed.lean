/- What an object names: named. -/
/- A collection: where the live objects lie and would lie, and what is left. Plain data. -/
/- The walk by holding: put, walk. -/
/- The walk by holding: walk. -/
import Derived.Test.YtlkahgagmfhdaaaGreatDoorJRefQ
import Derived.Test.YtlkahgagmfhdaaaGreatDoorJLive
import Derived.Test.YtlkahgagmfhdaaaGreatDoorJMake
import Derived.Test.YtlkahgagmfhdaaaGreatDoorJMapOk
import Derived.Lib.QuietBelow
import Derived.ScopeJumps
set_option linter.unusedVariables false
set_option linter.unusedSimpArgs false
set_option linter.unusedSectionVars false
namespace Go.Proofs.YtlkahgagmfhdaaaGreatDoor
open Go.RowKit
attribute [local go_sem] Oper.semAt_some
section
variable {w : World} {p : HP} {h : HM} {l : List Ob}
theorem fields_len (G : h.Good l) {o : Nat} (hi : h.isB o = true) : (h.fields o).length = (h.hd (o / 2)).size := by
  obtain ⟨a, b, c, rfl, rfl⟩ := (G.laid.isB_iff o).1 hi
  rw [G.laid.fields_at, half_pos, G.laid.hd_at, G.laid.ok_at.size]
theorem hd_size (G : h.Good l) {o : Nat} (hi : h.isB o = true) : (h.hd (o / 2)).size ≤ 65535 := by
  obtain ⟨a, b, c, rfl, rfl⟩ := (G.laid.isB_iff o).1 hi
  rw [half_pos, G.laid.hd_at]
  have k := G.laid.ok_at
  have := k.may
  unfold Hd.may at this
  simp at this
  omega
theorem isB_u32 (G : h.Good l) {o : Nat} (hi : h.isB o = true) : o < 4294967296 := by
  obtain ⟨a, b, c, rfl, rfl⟩ := (G.laid.isB_iff o).1 hi
  have := G.laid.words_len
  have := G.fit.room
  have := G.fit.hi
  omega
theorem kget_any (H : HAt w p h) (G : h.Good l) (hs : Spares w) {o : Nat} (hi : h.isB o = true) (hp : (h.hd (o / 2)).ptrB = true) (i : Nat) (hlt : i < (h.fields o).length) :
    Calls Tryz.prog 175 #[ptr p.g, .int .u32 o, .int .i64 i] w (Told (.tuple #[.int .u32 ((h.fields o).getD i 0 : Nat), .int .i64 0]) w) := by
  have ho := isB_u32 G hi
  have hG := get_any H G.fit G.laid.heads hs o ho (i : Int)
  have hfl := fields_len G hi
  have hp' : (h.hd (o / 2)).fmt = 1 ∨ (h.hd (o / 2)).fmt = 4 := by
    unfold Hd.ptrB at hp
    simpa using hp
  have hln : (h.hd (o / 2)).len = (h.hd (o / 2)).size := by unfold Hd.len; rw [if_neg (by omega)]
  have he : h.lookE o (i : Int) [1, 4] = 0 := by
    unfold HM.lookE
    rw [hi, if_neg (by decide), if_neg (by rcases hp' with e | e <;> rw [e] <;> decide), if_neg (by omega)]
  have hw : fw h o i = (h.fields o).getD i 0 := by
    obtain ⟨a, b, c, rfl, rfl⟩ := (G.laid.isB_iff o).1 hi
    rw [G.laid.fields_at] at hlt ⊢
    exact G.laid.f_at i hlt
  unfold HM.readV at hG
  rw [he, if_pos rfl, Int.toNat_natCast, hw] at hG
  exact hG
def namM (h : HM) (o : Nat) (held : Bool) : List Nat := if held then heldM h o else namesM h o
/-- What named answers: a new row. -/
def NamedP (os : List Nat) (w : World) (e : Ending) (w' : World) : Prop :=
  ∃ g c, e = .returned (.slice (some ⟨g, 0, none⟩) (os.filter k2).length c) ∧ w.heap.size ≤ g ∧ Row w' g 54 c (u32s (os.filter k2)) ∧ Below w.heap.size w w'
theorem names_32 (G : h.Good l) {o : Nat} (hi : h.isB o = true) : ∀ x ∈ namesM h o, x < 4294967296 := by
  obtain ⟨a, b, c, rfl, rfl⟩ := (G.laid.isB_iff o).1 hi
  intro x hx
  unfold namesM at hx
  rw [half_pos, G.laid.hd_at, G.laid.fields_at] at hx
  have k := G.laid.ok_at
  rcases List.mem_cons.1 hx with rfl | hx
  · exact k.fit.cls
  · split at hx
    · exact k.f32 x hx
    · cases hx
theorem nam_32 (G : h.Good l) {o : Nat} (hi : h.isB o = true) (held : Bool) : ∀ x ∈ namM h o held, x < 4294967296 := by
  intro x hx
  refine names_32 G hi x ?_
  unfold namM at hx
  split at hx
  · exact held_names hx
  · exact hx
theorem one_u32 (x : Nat) : ∀ u ∈ u32s [x], u.oneCell' = true := by
  intro u hu
  rcases List.mem_singleton.1 hu with rfl
  rfl
theorem u32s_app (a b : List Nat) : u32s (a ++ b) = u32s a ++ u32s b := by unfold u32s; rw [List.map_append]
theorem own_newO (w : World) (xs : List Nat) (n : Nat) (hl : xs.length = n) (hn : n ≤ maxLen) : (w.alloc (.cells (u32s xs).toArray 54)).ownsRow w.heap.size 54 1 (.slice (some ⟨w.heap.size, 0, none⟩) n n) n (u32s xs) := by
  subst hl
  exact ⟨by simp [u32s_len], .inr ⟨w.heap.size, xs.length, (u32s xs).toArray, rfl, Nat.le_refl _, heap_alloc_new w _, Nat.le_refl _, hn, by simp [u32s_len], by rw [Nat.mul_one, List.take_of_length_le (by simp [u32s])]⟩⟩
theorem own_base {w : World} {B B' s n : Nat} {e : TypeId} {v : Value} {xs : List Value} (h : w.ownsRow B e s v n xs) (hb : B' ≤ B) : w.ownsRow B' e s v n xs := by
  refine ⟨h.1, ?_⟩
  rcases h.2 with h1 | ⟨g, cap, cur, h1, h2, h3⟩
  · exact .inl h1
  · exact .inr ⟨g, cap, cur, h1, Nat.le_trans hb h2, h3⟩
theorem own_below {w w' : World} {B s n : Nat} {e : TypeId} {v : Value} {xs : List Value} (h : w.ownsRow B e s v n xs) (hb : Below w.heap.size w w') : w'.ownsRow B e s v n xs := by
  refine ⟨h.1, ?_⟩
  rcases h.2 with h1 | ⟨g, cap, cur, h1, h2, h3, h4⟩
  · exact .inl h1
  · exact .inr ⟨g, cap, cur, h1, h2, (hb.block g (lt_of_get h3)).trans h3, h4⟩
theorem only_end {w w3 : World} {os : List Nat} {v : Value} (hown : w3.ownsRow w.heap.size 54 1 v os.length (u32s os)) (h0 : 0 < os.length) (hn : os.length ≤ 9223372036854775807) (h32 : ∀ x ∈ os, x < 4294967296) (hb : Below w.heap.size w w3) :
    Calls Tryz.prog 219 #[v] w3 (NamedP os w) := by
  obtain ⟨g, c, rfl, hr, _, hg⟩ := Row.of_any hown h0
  refine (only_any g c os hr hn h32).mono ?_
  rintro e w4 ⟨rfl, hr4, hf⟩
  exact ⟨g, c, rfl, hg, hr4, hb.trans (hf.below hg hb.size)⟩
set_option maxRecDepth 100000 in
set_option maxHeartbeats 4000000 in
theorem named_any (H : HAt w p h) (G : h.Good l) (hs : Spares w) {o : Nat} (hi : h.isB o = true) (held : Bool) :
    Calls Tryz.prog 261 #[ptr p.g, .int .u32 o, .bool held] w (NamedP (namM h o held) w) := by
  have HH := Lib.hid (Header_any H G.fit G.laid.heads hs o (isB_u32 G hi))
  have hV : h.headerV o = .tuple #[(h.hd (o / 2)).val, .int .i64 0] := by unfold HM.headerV; simp [hi]
  rw [hV] at HH
  have HG := Lib.hid (fun (w' : World) (hb : Below w.heap.size w w') (hp : (h.hd (o / 2)).ptrB = true) i hlt => kget_any (H.below hb) G (hs.below hb) hi hp i hlt)
  have h32 := nam_32 G hi held
  have hfl := fields_len G hi
  have hsz := hd_size G hi
  have HN := Lib.hid (show namM h o held = (h.hd (o / 2)).cls :: (if (if held = true then (h.hd (o / 2)).fmt = 1 else (h.hd (o / 2)).ptrB = true) then h.fields o else []) from by
    unfold namM heldM namesM
    cases held <;> simp)
  clear hV H G hs hi
  generalize h.hd (o / 2) = X at *
  generalize h.fields o = fs at *
  generalize namM h o held = ns at *
  have H32 := Lib.hid h32
  clear h32
  obtain ⟨i0, hi0, hz0, hz1, hz2⟩ := info_parts info_oop
  obtain ⟨n, t, s, c, r⟩ := X
  simp only at HG HN hfl hsz
  unfold Hd.val at HH
  unfold ptr at HH HG ⊢
  go_enter Tryz.func261, Tryz.ntmps261
  go_wp2_with fail
  refine HH.out.mono ?_
  rintro e w1 ⟨rfl, hb1⟩
  have hb2 := hb1.alloc hb1.size (.cells #[.int .i64 (n : Int), .int .i64 (t : Int), .int .i64 (s : Int), .int .u32 (c : Int), .int .u32 (r : Int)] 75)
  have BX := Lib.hid ((Blk.new w1 75 #[.int .i64 (n : Int), .int .i64 (t : Int), .int .i64 (s : Int), .int .u32 (c : Int), .int .u32 (r : Int)]).alloc (.cells #[.int .u32 (c : Int)] 54))
  have hown := own_newO (w1.alloc (.cells #[.int .i64 (n : Int), .int .i64 (t : Int), .int .i64 (s : Int), .int .u32 (c : Int), .int .u32 (r : Int)] 75)) [c] 1 rfl (by decide)
  rw [World.size_alloc] at hown
  have HOW := Lib.hid (show ((w1.alloc (.cells #[.int .i64 (n : Int), .int .i64 (t : Int), .int .i64 (s : Int), .int .u32 (c : Int), .int .u32 (r : Int)] 75)).alloc (.cells #[.int .u32 (c : Int)] 54)).ownsRow w.heap.size 54 1 (.slice (some ⟨w1.heap.size + 1, 0, none⟩) 1 1) 1 (u32s [c]) from own_base hown (by have := hb1.size; omega))
  have HB3 := Lib.hid (hb2.alloc hb2.size (.cells #[.int .u32 (c : Int)] 54))
  clear hb1 hb2 HH hown
  go_upto_region 3 with fail
  generalize (w1.alloc (.cells #[.int .i64 (n : Int), .int .i64 (t : Int), .int .i64 (s : Int), .int .u32 (c : Int), .int .u32 (r : Int)] 75)).alloc (.cells #[.int .u32 (c : Int)] 54) = W3 at *
  obtain ⟨x0, x1, x2, x3, x4⟩ := BX.out.cells5
  clear BX
  have HPD : ∀ b, Hd.ptrB ⟨n, b, s, c, r⟩ = (decide (b = 1) || decide (b = 4)) := fun _ => rfl
  by_cases h1 : t = 1
  · have hi1 : ((t : Int) == 1) = true := by simp; omega
    have HPT := Lib.hid (show Hd.ptrB ⟨n, t, s, c, r⟩ = true by simp [Hd.ptrB, h1])
    have HNS := Lib.hid (show ns = c :: fs by rw [HN.out]; cases held <;> simp [Hd.ptrB, h1])
    clear HN HPD h1
    go_wp2_with fail
    clear x0 x1 x2 x3 x4
    go_loopw [9, 10, 11, 12, 36] (fun lv _ _ _ iv wr => ∃ k : Nat, iv = .int .i64 k ∧ k ≤ n ∧ wr.ownsRow w.heap.size 54 1 lv (k + 1) (u32s (c :: fs.take k)) ∧ Below w.heap.size w wr) (fun _ _ _ _ iv _ => n - (intOf iv).toNat)
    case atStart => exact ⟨0, rfl, by omega, HOW.out, HB3.out⟩
    case round =>
      clear HOW HB3
      obtain ⟨k, rfl, hk, hown, hb⟩ := hrel
      have HOW := Lib.hid hown
      have HB := Lib.hid hb
      clear hown hb
      by_cases hlt : k < n
      · have HGT := Lib.hid (HG.out wr HB.out HPT.out k (by rw [hfl]; exact hlt))
        have hsn : u32s (c :: fs.take k) ++ u32s [fs.getD k 0] = u32s (c :: fs.take (k + 1)) := by
          rw [← u32s_app, List.cons_append, List.take_add_one, List.getElem?_eq_getElem (by rw [hfl]; exact hlt), List.getD_eq_getElem?_getD, List.getElem?_eq_getElem (by rw [hfl]; exact hlt)]
          rfl
        have HSN := Lib.hid hsn
        clear hsn
        generalize fs.getD k 0 = y at HGT HSN
        go_wp2_with fail
        refine HGT.out.mono ?_
        rintro e w5 ⟨rfl, hb5⟩
        have HO5 := Lib.hid (own_below HOW.out hb5)
        have HB5 := Lib.hid (HB.out.trans (hb5.mono HB.out.size))
        have hBw : w.heap.size ≤ w5.heap.size := HB5.out.size
        clear hb5 HOW HGT HB
        go_wp2_with (at_builtin; refine wpList_append_any _ rfl (.tmp 46) (.tmp 48) _ rfl w.heap.size 54 i0 _ 1 4 Tryz.underlying101 hi0 hz0 hz1 hz2 rfl (by omega) u9 (k + 1) _ rfl (HO5.out.alloc _) (w5.heap.size + 1) (some ⟨w5.heap.size, 0, none⟩) 1 1 (u32s [y]) rfl ⟨rfl, fun _ => ⟨_, rfl, by simp, cell_one_new _ _ _⟩⟩ (one_u32 _) (by simp only [maxLen]; omega) (by omega) (by simp; omega) ?_; intro v1 w6 hown6 hgrow hat6)
        go_roundw
        case rel =>
          exact ⟨k + 1, by go_num, by omega, by rw [← HSN.out]; exact hown6, below_grown (Nat.le_refl _) (HB5.out.alloc HB5.out.size _) hgrow (fun q hq => (HO5.out.lt q hq).1)⟩
        case measure => simp [intOf]; omega
      · obtain rfl : k = n := by omega
        have hns : ns = c :: fs.take k := by rw [HNS.out, List.take_of_length_le (by rw [hfl]; exact Nat.le_refl _)]
        have hnl : ns.length = k + 1 := by rw [hns]; simp; omega
        have HE := Lib.hid (only_end (w := w) (os := ns) (by rw [hnl, hns]; exact HOW.out) (by omega) (by omega) H32.out HB.out)
        clear HOW HB hns
        go_wp2_with fail
        refine HE.out.mono ?_
        rintro e w7 ⟨g7, c7, rfl, h71, h72, h73⟩
        have H7 := Lib.hid (show NamedP ns w (.returned (.slice (some ⟨g7, 0, none⟩) (ns.filter k2).length c7)) w7 from ⟨g7, c7, rfl, h71, h72, h73⟩)
        clear h71 h72 h73 HE
        go_wp2_with fail
        go_ret
        exact H7.out
  by_cases h4 : t = 4
  · have hi1 : ((t : Int) == 1) = false := by simp; omega
    have hi4 : ((t : Int) == 4) = true := by simp; omega
    cases held with
    | false =>
      have HPT := Lib.hid (show Hd.ptrB ⟨n, t, s, c, r⟩ = true by simp [Hd.ptrB, h4])
      have HNS := Lib.hid (show ns = c :: fs by rw [HN.out]; simp [Hd.ptrB, h4])
      clear HN HPD h1 h4
      go_wp2_with fail
      clear x0 x1 x2 x3 x4
      go_loopw [9, 10, 11, 12, 36] (fun lv _ _ _ iv wr => ∃ k : Nat, iv = .int .i64 k ∧ k ≤ n ∧ wr.ownsRow w.heap.size 54 1 lv (k + 1) (u32s (c :: fs.take k)) ∧ Below w.heap.size w wr) (fun _ _ _ _ iv _ => n - (intOf iv).toNat)
      case atStart => exact ⟨0, rfl, by omega, HOW.out, HB3.out⟩
      case round =>
        clear HOW HB3
        obtain ⟨k, rfl, hk, hown, hb⟩ := hrel
        have HOW := Lib.hid hown
        have HB := Lib.hid hb
        clear hown hb
        by_cases hlt : k < n
        · have HGT := Lib.hid (HG.out wr HB.out HPT.out k (by rw [hfl]; exact hlt))
          have hsn : u32s (c :: fs.take k) ++ u32s [fs.getD k 0] = u32s (c :: fs.take (k + 1)) := by
            rw [← u32s_app, List.cons_append, List.take_add_one, List.getElem?_eq_getElem (by rw [hfl]; exact hlt), List.getD_eq_getElem?_getD, List.getElem?_eq_getElem (by rw [hfl]; exact hlt)]
            rfl
          have HSN := Lib.hid hsn
          clear hsn
          generalize fs.getD k 0 = y at HGT HSN
          go_wp2_with fail
          refine HGT.out.mono ?_
          rintro e w5 ⟨rfl, hb5⟩
          have HO5 := Lib.hid (own_below HOW.out hb5)
          have HB5 := Lib.hid (HB.out.trans (hb5.mono HB.out.size))
          have hBw : w.heap.size ≤ w5.heap.size := HB5.out.size
          clear hb5 HOW HGT HB
          go_wp2_with (at_builtin; refine wpList_append_any _ rfl (.tmp 46) (.tmp 48) _ rfl w.heap.size 54 i0 _ 1 4 Tryz.underlying101 hi0 hz0 hz1 hz2 rfl (by omega) u9 (k + 1) _ rfl (HO5.out.alloc _) (w5.heap.size + 1) (some ⟨w5.heap.size, 0, none⟩) 1 1 (u32s [y]) rfl ⟨rfl, fun _ => ⟨_, rfl, by simp, cell_one_new _ _ _⟩⟩ (one_u32 _) (by simp only [maxLen]; omega) (by omega) (by simp; omega) ?_; intro v1 w6 hown6 hgrow hat6)
          go_roundw
          case rel =>
            exact ⟨k + 1, by go_num, by omega, by rw [← HSN.out]; exact hown6, below_grown (Nat.le_refl _) (HB5.out.alloc HB5.out.size _) hgrow (fun q hq => (HO5.out.lt q hq).1)⟩
          case measure => simp [intOf]; omega
        · obtain rfl : k = n := by omega
          have hns : ns = c :: fs.take k := by rw [HNS.out, List.take_of_length_le (by rw [hfl]; exact Nat.le_refl _)]
          have hnl : ns.length = k + 1 := by rw [hns]; simp; omega
          have HE := Lib.hid (only_end (w := w) (os := ns) (by rw [hnl, hns]; exact HOW.out) (by omega) (by omega) H32.out HB.out)
          clear HOW HB hns
          go_wp2_with fail
          refine HE.out.mono ?_
          rintro e w7 ⟨g7, c7, rfl, h71, h72, h73⟩
          have H7 := Lib.hid (show NamedP ns w (.returned (.slice (some ⟨g7, 0, none⟩) (ns.filter k2).length c7)) w7 from ⟨g7, c7, rfl, h71, h72, h73⟩)
          clear h71 h72 h73 HE
          go_wp2_with fail
          go_ret
          exact H7.out
    | true =>
      have HNS := Lib.hid (show ns = [c] by rw [HN.out]; simp [h4])
      clear HN HPD h1 h4 HG
      have HE := Lib.hid (only_end (w := w) (os := ns) (by rw [HNS.out]; exact HOW.out) (by rw [HNS.out]; simp) (by rw [HNS.out]; simp) H32.out HB3.out)
      have hnl : ns.length = 1 := by rw [HNS.out]; rfl
      clear HOW HB3 HNS
      go_wp2_with fail
      refine HE.out.mono ?_
      rintro e w7 ⟨g7, c7, rfl, h71, h72, h73⟩
      have H7 := Lib.hid (show NamedP ns w (.returned (.slice (some ⟨g7, 0, none⟩) (ns.filter k2).length c7)) w7 from ⟨g7, c7, rfl, h71, h72, h73⟩)
      clear h71 h72 h73 HE
      go_wp2_with fail
      go_ret
      exact H7.out
  · have hi1 : ((t : Int) == 1) = false := by simp; omega
    have hi4 : ((t : Int) == 4) = false := by simp; omega
    have HNS := Lib.hid (show ns = [c] by rw [HN.out]; cases held <;> simp [Hd.ptrB, h1, h4])
    clear HN HPD h1 h4 HG
    have HE := Lib.hid (only_end (w := w) (os := ns) (by rw [HNS.out]; exact HOW.out) (by rw [HNS.out]; simp) (by rw [HNS.out]; simp) H32.out HB3.out)
    have hnl : ns.length = 1 := by rw [HNS.out]; rfl
    clear HOW HB3 HNS
    go_wp2_with fail
    refine HE.out.mono ?_
    rintro e w7 ⟨g7, c7, rfl, h71, h72, h73⟩
    have H7 := Lib.hid (show NamedP ns w (.returned (.slice (some ⟨g7, 0, none⟩) (ns.filter k2).length c7)) w7 from ⟨g7, c7, rfl, h71, h72, h73⟩)
    clear h71 h72 h73 HE
    go_wp2_with fail
    go_ret
    exact H7.out

end
end Go.Proofs.YtlkahgagmfhdaaaGreatDoor

namespace Go.Proofs.YtlkahgagmfhdaaaGreatDoor
open Go.RowKit

theorem getD_pre {α : Type} {l l' : List α} {d : α} (hp : l <+: l') {j : Nat} (hj : j < l.length) : l'.getD j d = l.getD j d := by
  obtain ⟨t, rfl⟩ := hp
  exact getD_app_left _ _ _ _ hj
/-- What is met holds nothing but what is met. -/
theorem walkF_shut (nm : Nat → List Nat) : ∀ (f i : Nat) (l : Wk), (walkF nm f i l).length < f + i → (∀ j, j < i → j < l.length → ∀ x ∈ nm (l.getD j (0, 0)).1, kindM x = 2 → x ∈ metO l) →
    ∀ j, j < (walkF nm f i l).length → ∀ x ∈ nm ((walkF nm f i l).getD j (0, 0)).1, kindM x = 2 → x ∈ metO (walkF nm f i l)
  | 0, i, l, hf, h => by
    intro j hj x hx hk
    unfold walkF at hf hj hx ⊢
    exact h j (by omega) hj x hx hk
  | f + 1, i, l, hf, h => by
    by_cases hi : i < l.length
    · have e : walkF nm (f + 1) i l = walkF nm f (i + 1) (putsW l (nm (l.getD i (0, 0)).1) (i : Int)) := by
        conv => lhs; unfold walkF
        rw [if_pos hi]
      rw [e] at hf ⊢
      refine walkF_shut nm f (i + 1) _ (by omega) (fun j hj hjl x hx hk => ?_)
      have hp := putsW_pre l (nm (l.getD i (0, 0)).1) (i : Int)
      rcases Nat.lt_or_ge j i with h1 | h1
      · rw [getD_pre hp (by omega)] at hx
        exact putsW_mem.2 (.inl (h j h1 (by omega) x hx hk))
      · obtain rfl : j = i := by omega
        rw [getD_pre hp hi] at hx
        exact putsW_mem.2 (.inr ⟨hx, hk⟩)
    · have e : walkF nm (f + 1) i l = l := by unfold walkF; rw [if_neg hi]
      rw [e] at hf ⊢
      intro j hj x hx hk
      exact h j (by omega) hj x hx hk
theorem metO_get {l : Wk} {o : Nat} (h : o ∈ metO l) : ∃ j, j < l.length ∧ (l.getD j (0, 0)).1 = o := by
  unfold metO at h
  obtain ⟨p, hp, rfl⟩ := List.mem_map.1 h
  obtain ⟨j, hj, rfl⟩ := List.getElem_of_mem hp
  exact ⟨j, hj, by rw [List.getD_eq_getElem?_getD, List.getElem?_eq_getElem hj]; rfl⟩
section
variable {h : HM} {l : List Ob}
theorem walk_len (G : h.Good l) {fr : List Nat} (hf : ∀ x ∈ fr, h.valB x = true) : (walkM (heldM h) fr).length ≤ 1048576 := wk_len G (walkM_nodup _ _) (walk_isB G hf)
theorem walk_shut (G : h.Good l) {fr : List Nat} (hf : ∀ x ∈ fr, h.valB x = true) {o x : Nat} (ho : o ∈ metO (walkM (heldM h) fr)) (hx : x ∈ heldM h o) (hk : kindM x = 2) : x ∈ metO (walkM (heldM h) fr) := by
  obtain ⟨j, hj, rfl⟩ := metO_get ho
  have hl := walk_len G hf
  exact walkF_shut (heldM h) 2097152 0 _ (by unfold walkM at hl; omega) (fun j hj => by omega) j hj x hx hk
theorem walk_root {nm : Nat → List Nat} {fr : List Nat} {x : Nat} (hx : x ∈ fr) (hk : kindM x = 2) : x ∈ metO (walkM nm fr) := by
  obtain ⟨t, ht⟩ := walkF_pre nm 2097152 0 (putsW [] fr (-1))
  unfold walkM
  rw [← ht]
  unfold metO
  rw [List.map_append]
  exact List.mem_append_left _ (putsW_mem.2 (.inr ⟨hx, hk⟩))
/-- The live objects, with what they are. -/
def keepZ (h : HM) (l : List Ob) : List (Nat × Ob) := ((oopsL l).zip l).filter (fun p => decide (p.1 ∈ metO (walkM (heldM h) h.roots)))
theorem keepZ_fst (h : HM) (l : List Ob) : (keepZ h l).map (·.1) = liveO h l := by
  unfold liveO
  have e : oopsL l = ((oopsL l).zip l).map (·.1) := (List.map_fst_zip (by rw [oopsL_len]; exact Nat.le_refl _)).symm
  conv => rhs; rw [e]
  rw [List.filter_map]
  rfl
theorem keepZ_len (h : HM) (l : List Ob) : (keepZ h l).length = (liveO h l).length := by rw [← keepZ_fst, List.length_map]
theorem keepZ_snd (h : HM) (l : List Ob) : ((keepZ h l).map (·.2)).Sublist l := by
  have e : l = ((oopsL l).zip l).map (·.2) := (List.map_snd_zip (by rw [oopsL_len]; exact Nat.le_refl _)).symm
  conv => rhs; rw [e]
  exact List.Sublist.map _ List.filter_sublist
theorem keepZ_mem {p : Nat × Ob} (hp : p ∈ keepZ h l) : ∃ j, ∃ hj : j < l.length, p.1 = 2 * posOf (l.take j) ∧ p.2 = l[j] ∧ p.1 ∈ metO (walkM (heldM h) h.roots) := by
  unfold keepZ at hp
  rw [List.mem_filter] at hp
  obtain ⟨hz, hd⟩ := hp
  obtain ⟨j, hj, rfl⟩ := List.getElem_of_mem hz
  rw [List.length_zip, oopsL_len] at hj
  have hj' : j < l.length := by omega
  refine ⟨j, hj', ?_, ?_, by simpa using hd⟩
  · rw [List.getElem_zip]
    have := oopsL_get hj'
    rw [List.getElem?_eq_getElem (by rw [oopsL_len]; exact hj')] at this
    injection this
  · rw [List.getElem_zip]
theorem keepZ_nodup (h : HM) (l : List Ob) : ((keepZ h l).map (·.1)).Nodup := by
  rw [keepZ_fst, List.nodup_iff_pairwise_ne]
  exact (liveO_lt h l).imp (fun h => by omega)
/-- A live object's class and fields. -/
theorem keepZ_held (G : h.Good l) {p : Nat × Ob} (hp : p ∈ keepZ h l) : heldM h p.1 = p.2.x.cls :: (if p.2.x.fmt = 1 then p.2.fs else []) := by
  obtain ⟨j, hj, h1, h2, _⟩ := keepZ_mem hp
  have L := G.laid
  rw [split_at l j hj] at L
  unfold heldM
  rw [h1, half_pos, L.hd_at, L.fields_at, h2]
/-- Where they lie and would lie, from a word on. -/
def planF : Nat → List (Nat × Ob) → List (Nat × Nat)
  | _, [] => []
  | a, p :: r => (p.1, 2 * a) :: planF (a + 3 + p.2.fs.length) r
def planM (h : HM) (l : List Ob) : List (Nat × Nat) := planF 1 (keepZ h l)
theorem planF_len : ∀ (a : Nat) (z : List (Nat × Ob)), (planF a z).length = z.length
  | _, [] => rfl
  | a, p :: r => by simp [planF, planF_len]
theorem planF_fst : ∀ (a : Nat) (z : List (Nat × Ob)), (planF a z).map (·.1) = z.map (·.1)
  | _, [] => rfl
  | a, p :: r => by simp [planF, planF_fst]
theorem planF_get : ∀ (a : Nat) (z : List (Nat × Ob)) (k : Nat) (hk : k < z.length), (planF a z)[k]? = some ((z[k]).1, 2 * (a + (wsOf ((z.take k).map (·.2))).length))
  | a, p :: r, 0, _ => by simp [planF, wsOf_nil]
  | a, p :: r, k + 1, hk => by
    have := planF_get (a + 3 + p.2.fs.length) r k (by simpa using hk)
    simp only [planF, List.getElem?_cons_succ, List.getElem_cons_succ, List.take_succ_cons, List.map_cons, wsOf_cons, List.length_append, Ob.ws_len]
    rw [this]
    congr 3
    omega
theorem planM_fst (h : HM) (l : List Ob) : (planM h l).map (·.1) = liveO h l := by unfold planM; rw [planF_fst, keepZ_fst]
/-- Where an object goes; 0: it is not live. -/
def goesM (pl : List (Nat × Nat)) (x : Nat) : Nat := ((pl.find? (fun p => p.1 == x)).map (·.2)).getD 0
def whereM (pl : List (Nat × Nat)) (x : Nat) : Nat := if kindM x = 2 then goesM pl x else x
theorem goesM_no {pl : List (Nat × Nat)} {x : Nat} (h : x ∉ pl.map (·.1)) : goesM pl x = 0 := by
  unfold goesM
  have h0 : pl.find? (fun p => p.1 == x) = none := by
    rw [List.find?_eq_none]
    intro p hp he
    exact h (List.mem_map.2 ⟨p, hp, by simpa using he⟩)
  rw [h0]; rfl
theorem goesM_at {pl : List (Nat × Nat)} (hd : (pl.map (·.1)).Nodup) {k : Nat} {p : Nat × Nat} (hk : pl[k]? = some p) : goesM pl p.1 = p.2 := by
  induction pl generalizing k with
  | nil => cases hk
  | cons q pl ih =>
    rw [List.map_cons, List.nodup_cons] at hd
    cases k with
    | zero =>
      rw [List.getElem?_cons_zero] at hk
      injection hk with hk
      subst hk
      simp [goesM]
    | succ k =>
      rw [List.getElem?_cons_succ] at hk
      have hne : (q.1 == p.1) = false := by
        rw [beq_eq_false_iff_ne]
        intro e
        exact hd.1 (e ▸ List.mem_map.2 ⟨p, List.mem_of_getElem? hk, rfl⟩)
      have := ih hd.2 hk
      unfold goesM at this ⊢
      rw [List.find?_cons, hne]
      exact this
/-- What a field becomes. -/
def fldM (pl : List (Nat × Nat)) (void x : Nat) : Nat := if kindM x = 2 ∧ x ∉ pl.map (·.1) then void else whereM pl x
def relob (pl : List (Nat × Nat)) (void : Nat) (b : Ob) : Ob := ⟨{ b.x with cls := whereM pl b.x.cls }, if b.x.ptrB then b.fs.map (fldM pl void) else b.fs⟩
def voidM (h : HM) (l : List Ob) : Nat := whereM (planM h l) (h.roots.getD 0 0)
/-- What a collection leaves. -/
def colL (h : HM) (l : List Ob) : List Ob := (keepZ h l).map (fun p => relob (planM h l) (voidM h l) p.2)
def colR (h : HM) (l : List Ob) : List Nat := h.roots.map (whereM (planM h l))
def colH (h : HM) (l : List Ob) : HM := HM.ofWords h.size (0 :: wsOf (colL h l)) (colR h l) h.last
theorem relob_len (pl : List (Nat × Nat)) (void : Nat) (b : Ob) : (relob pl void b).fs.length = b.fs.length := by unfold relob; simp only; split <;> simp
theorem wsOf_same {g : Ob → Ob} (hg : ∀ b, (g b).fs.length = b.fs.length) (L : List Ob) : (wsOf (L.map g)).length = (wsOf L).length := by
  induction L with
  | nil => rfl
  | cons b L ih => rw [List.map_cons, wsOf_cons, wsOf_cons, List.length_append, List.length_append, ih, Ob.ws_len, Ob.ws_len, hg]
theorem wsOf_sub {a b : List Ob} (h : a.Sublist b) : (wsOf a).length ≤ (wsOf b).length := by
  induction h with
  | slnil => exact Nat.le_refl _
  | cons x _ ih => rw [wsOf_cons, List.length_append]; omega
  | cons_cons x _ ih => rw [wsOf_cons, wsOf_cons, List.length_append, List.length_append]; omega
theorem colL_eq (h : HM) (l : List Ob) : colL h l = ((keepZ h l).map (·.2)).map (relob (planM h l) (voidM h l)) := by unfold colL; rw [List.map_map]; rfl
theorem colL_len (h : HM) (l : List Ob) : (colL h l).length = (keepZ h l).length := by unfold colL; rw [List.length_map]
theorem colL_words (h : HM) (l : List Ob) : (wsOf (colL h l)).length ≤ (wsOf l).length := by
  rw [colL_eq, wsOf_same (relob_len _ _)]
  exact wsOf_sub (keepZ_snd h l)
theorem plan_get (h : HM) (l : List Ob) {k : Nat} (hk : k < (keepZ h l).length) : (planM h l)[k]? = some (((keepZ h l)[k]).1, 2 * posOf ((colL h l).take k)) := by
  unfold planM
  rw [planF_get 1 _ k hk]
  congr 3
  unfold posOf
  rw [colL_eq, ← List.map_take, wsOf_same (relob_len _ _), List.map_take]
theorem goes_live (h : HM) (l : List Ob) {o : Nat} (ho : o ∈ liveO h l) : ∃ k, k < (colL h l).length ∧ goesM (planM h l) o = 2 * posOf ((colL h l).take k) := by
  rw [← keepZ_fst] at ho
  obtain ⟨p, hp, rfl⟩ := List.mem_map.1 ho
  obtain ⟨k, hk, rfl⟩ := List.getElem_of_mem hp
  refine ⟨k, by rw [colL_len]; exact hk, ?_⟩
  exact goesM_at (by rw [planM_fst, ← keepZ_fst]; exact keepZ_nodup h l) (plan_get h l hk)
theorem posOf_take_le (L : List Ob) (k : Nat) : posOf (L.take k) ≤ 1 + (wsOf L).length := by
  unfold posOf
  have := wsOf_sub (List.take_sublist k L)
  omega
theorem goes_lt (G : h.Good l) (o : Nat) : goesM (planM h l) o < 4294967296 := by
  by_cases ho : o ∈ liveO h l
  · obtain ⟨k, hk, e⟩ := goes_live h l ho
    rw [e]
    have h1 := posOf_take_le (colL h l) k
    have h2 := colL_words h l
    have h3 := G.fit.room
    have h4 := G.fit.hi
    rw [G.laid.words, List.length_cons] at h3
    omega
  · rw [goesM_no (by rw [planM_fst]; exact ho)]; decide
theorem where_lt (G : h.Good l) {o : Nat} (ho : o < 4294967296) : whereM (planM h l) o < 4294967296 := by
  unfold whereM
  split
  · exact goes_lt G o
  · exact ho
theorem roots_lt (G : h.Good l) (i : Nat) : h.roots.getD i 0 < 4294967296 := by
  rw [List.getD_eq_getElem?_getD]
  cases hh : h.roots[i]? with
  | none => simp
  | some v => simp; exact G.fit.r32 v (List.mem_of_getElem? hh)
theorem void_lt (G : h.Good l) : voidM h l < 4294967296 := where_lt G (roots_lt G 0)
theorem fld_lt (G : h.Good l) {o : Nat} (ho : o < 4294967296) : fldM (planM h l) (voidM h l) o < 4294967296 := by
  unfold fldM
  split
  · exact void_lt G
  · exact where_lt G ho
theorem relob_ok (G : h.Good l) {b : Ob} (k : b.Ok) : (relob (planM h l) (voidM h l) b).Ok := by
  refine ⟨⟨k.fit.size, k.fit.fmt, k.fit.spare, where_lt G k.fit.cls, k.fit.ser⟩, k.may, by rw [relob_len]; exact k.size, fun f hf => ?_⟩
  unfold relob at hf
  simp only at hf
  split at hf
  · obtain ⟨g, hg, rfl⟩ := List.mem_map.1 hf
    exact fld_lt G (k.f32 g hg)
  · exact k.f32 f hf
theorem keepZ_ok (G : h.Good l) {p : Nat × Ob} (hp : p ∈ keepZ h l) : p.2.Ok := by
  obtain ⟨j, hj, _, h2, _⟩ := keepZ_mem hp
  rw [h2]
  exact G.laid.ok _ (List.getElem_mem hj)
theorem colL_ok (G : h.Good l) : ∀ b ∈ colL h l, b.Ok := by
  intro b hb
  unfold colL at hb
  obtain ⟨p, hp, rfl⟩ := List.mem_map.1 hb
  exact relob_ok G (keepZ_ok G hp)
theorem col_parse (G : h.Good l) : parseW (0 :: wsOf (colL h l)) = some (colL h l) := parseW_obs (colL_ok G)
theorem col_laid (G : h.Good l) : (colH h l).Laid (colL h l) :=
  ⟨rfl, by show false :: msOf ((parseW (0 :: wsOf (colL h l))).getD []) = _; rw [col_parse G]; rfl, colL_ok G⟩
theorem col_isB (G : h.Good l) {o : Nat} (ho : o ∈ liveO h l) : (colH h l).isB (goesM (planM h l) o) = true := by
  obtain ⟨k, hk, e⟩ := goes_live h l ho
  rw [e]
  exact ((col_laid G).isB_iff _).2 ⟨_, _, _, split_at _ k hk, rfl⟩
theorem live_of_held (G : h.Good l) {p : Nat × Ob} (hp : p ∈ keepZ h l) {x : Nat} (hx : x ∈ heldM h p.1) (hk : kindM x = 2) : x ∈ liveO h l := by
  obtain ⟨j, hj, h1, h2, h3⟩ := keepZ_mem hp
  exact (mem_liveO G).2 (walk_shut G G.sound.roots h3 hx hk)
theorem live_of_root (G : h.Good l) {x : Nat} (hx : x ∈ h.roots) (hk : kindM x = 2) : x ∈ liveO h l := (mem_liveO G).2 (walk_root hx hk)
theorem val_where (G : h.Good l) {x : Nat} (hx : kindM x = 2 → x ∈ liveO h l) : (colH h l).valB (whereM (planM h l) x) = true := by
  unfold HM.valB
  rw [Bool.or_eq_true]
  unfold whereM
  by_cases hk : kindM x = 2
  · rw [if_pos hk]; exact .inr (col_isB G (hx hk))
  · rw [if_neg hk]; exact .inl (by unfold objB; simpa using hk)
theorem void_val (G : h.Good l) : (colH h l).valB (voidM h l) = true :=
  val_where G (fun hk => by
    refine live_of_root G ?_ hk
    rw [List.getD_eq_getElem?_getD, List.getElem?_eq_getElem (by rw [G.fit.roots]; omega)]
    exact List.getElem_mem _)
theorem fld_val (G : h.Good l) (x : Nat) : (colH h l).valB (fldM (planM h l) (voidM h l) x) = true := by
  unfold fldM
  split
  · exact void_val G
  · rename_i hn
    exact val_where G (fun hk => Classical.byContradiction fun hc => hn ⟨hk, by rw [planM_fst]; exact hc⟩)
theorem col_sound (G : h.Good l) : (colH h l).Sound (colL h l) := by
  have hsub := keepZ_snd h l
  have hmem : ∀ p ∈ keepZ h l, p.2 ∈ l := fun p hp => hsub.subset (List.mem_map.2 ⟨p, hp, rfl⟩)
  refine ⟨fun b hb => ?_, fun b hb hpb f hf => ?_, fun b hb hf => ?_, fun b hb => ?_, ?_, fun r hr => ?_⟩
  · unfold colL at hb
    obtain ⟨p, hp, rfl⟩ := List.mem_map.1 hb
    show (colH h l).clsB (whereM (planM h l) p.2.x.cls) = true
    have hc := G.sound.cls p.2 (hmem p hp)
    unfold HM.clsB at hc ⊢
    rw [Bool.or_eq_true] at hc ⊢
    rcases hc with hc | hc
    · have hc : p.2.x.cls = 0 := by simpa using hc
      rw [hc]
      exact .inl (by simp [whereM, kindM])
    · have hk := isB_kind hc
      unfold whereM
      rw [if_pos hk]
      exact .inr (col_isB G (live_of_held G hp (by rw [keepZ_held G hp]; simp) hk))
  · unfold colL at hb
    obtain ⟨p, hp, rfl⟩ := List.mem_map.1 hb
    unfold relob at hf
    simp only at hf
    split at hf
    · obtain ⟨g, hg, rfl⟩ := List.mem_map.1 hf
      exact fld_val G g
    · rename_i hno
      exact absurd hpb hno
  · unfold colL at hb
    obtain ⟨p, hp, rfl⟩ := List.mem_map.1 hb
    have hf2 : p.2.x.fmt = 2 := hf
    have hnp : p.2.x.ptrB = false := by unfold Hd.ptrB; simp [hf2]
    unfold relob
    simp only [hnp, Bool.false_eq_true, if_false]
    exact G.sound.spare p.2 (hmem p hp) hf2
  · unfold colL at hb
    obtain ⟨p, hp, rfl⟩ := List.mem_map.1 hb
    exact G.sound.sers p.2 (hmem p hp)
  · have e : (colL h l).map (fun o => o.x.ser) = ((keepZ h l).map (·.2)).map (fun o => o.x.ser) := by
      rw [colL_eq, List.map_map]
      rfl
    rw [e]
    exact (hsub.map _).nodup G.sound.nodup
  · unfold colH HM.ofWords colR at hr
    obtain ⟨x, hx, rfl⟩ := List.mem_map.1 hr
    exact val_where G (fun hk => live_of_root G hx hk)
theorem col_w32 (G : h.Good l) : ∀ x ∈ 0 :: wsOf (colL h l), x < 4294967296 := by
  intro x hx
  rcases List.mem_cons.1 hx with rfl | hx
  · decide
  · unfold wsOf at hx
    obtain ⟨b, hb, hx⟩ := List.mem_flatMap.1 hx
    have k := colL_ok G b hb
    have := w0_lt k.fit
    unfold Ob.ws at hx
    simp only [List.mem_cons] at hx
    rcases hx with rfl | rfl | rfl | hx
    · omega
    · exact k.fit.cls
    · exact k.fit.ser
    · exact k.f32 x hx
theorem col_r32 (G : h.Good l) : ∀ x ∈ colR h l, x < 4294967296 := by
  intro x hx
  unfold colR at hx
  obtain ⟨y, hy, rfl⟩ := List.mem_map.1 hx
  exact where_lt G (G.fit.r32 y hy)
theorem col_room (G : h.Good l) : (0 :: wsOf (colL h l)).length ≤ h.words.length := by
  rw [G.laid.words, List.length_cons, List.length_cons]
  have := colL_words h l
  omega
/-- What a collection leaves is a heap. -/
theorem col_good (G : h.Good l) : (colH h l).Good (colL h l) :=
  HM.ofWords_good G.fit.lo G.fit.hi (col_w32 G) (col_r32 G) (by unfold colR; rw [List.length_map]; exact G.fit.roots) G.fit.l32 (Nat.le_trans (col_room G) G.fit.room) (col_parse G) (col_sound G)
theorem col_loadOk (G : h.Good l) : LoadOk h.size (0 :: wsOf (colL h l)) (colR h l) h.last := ⟨colL h l, col_parse G, col_sound G⟩
/-- What a collection came to. -/
def movedN (h : HM) (l : List Ob) : Nat := ((planM h l).filter (fun p => decide (p.1 ≠ p.2))).length
def deadB (pl : List (Nat × Nat)) (x : Nat) : Bool := decide (kindM x = 2 ∧ x ∉ pl.map (·.1))
def clearedB (pl : List (Nat × Nat)) (b : Ob) : Nat := if b.x.ptrB then (b.fs.filter (deadB pl)).length else 0
def clearedN (h : HM) (l : List Ob) : Nat := ((keepZ h l).map (fun p => clearedB (planM h l) p.2)).sum
end
end Go.Proofs.YtlkahgagmfhdaaaGreatDoor

namespace Go.Proofs.YtlkahgagmfhdaaaGreatDoor
open Go.RowKit
attribute [local go_sem] Oper.semAt_some
/-- A trail in memory, all of it from B on. -/
structure TrailAt (w : World) (B gt bm : Nat) (v : Value) (l : Wk) : Prop where
  box : Blk w gt 323 #[v, .map (some bm)]
  own : w.ownsRow B 54 1 v l.length (u32s (metO l))
  map : MapE 54 3 .i64 w bm l.length (byOf l) (fun x => decide (x ∈ metO l))
  hg : B ≤ gt
  hm : B ≤ bm
  m32 : ∀ x ∈ metO l, x < 4294967296
section
variable {w w' : World} {B gt bm : Nat} {v v' : Value} {l : Wk}
theorem TrailAt.below (T : TrailAt w B gt bm v l) (h : Below w.heap.size w w') : TrailAt w' B gt bm v l :=
  ⟨T.box.below h T.box.lt, own_below T.own h, T.map.below h, T.hg, T.hm, T.m32⟩
theorem byOf_put {l : Wk} {o : Nat} {b : Int} (h : o ∉ metO l) : byOf (l ++ [(o, b)]) = fun y => if y = o then b else byOf l y := by funext y; exact byOf_snoc b h y
theorem metB_put {l : Wk} {o : Nat} {b : Int} : (fun x => decide (x ∈ metO (l ++ [(o, b)]))) = fun y => if y = o then true else decide (y ∈ metO l) := by
  funext y
  rw [metO_snoc]
  by_cases h : y = o
  · rw [if_pos h]; simp [h]
  · rw [if_neg h]; simp [h]
end
theorem own_ne_blk {w : World} {B s n g : Nat} {e t : TypeId} {v : Value} {xs : List Value} {cs : Array Value} (h : w.ownsRow B e s v n xs) (k : Blk w g t cs) (hne : e ≠ t) : v.ownBlock ≠ some g := by
  rcases h.2 with ⟨rfl, _⟩ | ⟨g', cap, cur, rfl, _, h3, _⟩
  · intro e; cases e
  · intro e
    injection e with e
    subst e
    unfold Blk at k
    rw [h3] at k
    injection k with k
    injection k with _ k
    exact hne k
theorem own_val {w : World} {B s n : Nat} {e : TypeId} {v : Value} {xs : List Value} (h : w.ownsRow B e s v n xs) : ∃ A c, v = .slice A n c := by
  rcases h.2 with ⟨rfl, h0⟩ | ⟨g, cap, cur, rfl, _⟩
  · have : n = 0 := by first | exact h0 | (have := h.1; simp_all) | omega
    subst this
    exact ⟨none, 0, rfl⟩
  · exact ⟨_, _, rfl⟩
theorem own_keep {w w' : World} {B s n : Nat} {e : TypeId} {v : Value} {xs : List Value} (h : w.ownsRow B e s v n xs) (hs : ∀ k, v.ownBlock = some k → w'.heap[k]? = w.heap[k]?) : w'.ownsRow B e s v n xs := by
  refine ⟨h.1, ?_⟩
  rcases h.2 with h1 | ⟨g, cap, cur, h1, h2, h3, h4⟩
  · exact .inl h1
  · exact .inr ⟨g, cap, cur, h1, h2, (hs g (by rw [h1]; rfl)).trans h3, h4⟩
theorem own_ne_map {w : World} {B s n b m : Nat} {e K E : TypeId} {kd : IntKind} {v : Value} {xs : List Value} {f : Nat → Int} {hs : Nat → Bool} (h : w.ownsRow B e s v n xs) (k : MapE K E kd w b m f hs) : v.ownBlock ≠ some b := by
  rcases h.2 with ⟨rfl, _⟩ | ⟨g', cap, cur, rfl, _, h3, _⟩
  · intro e; cases e
  · intro e
    injection e with e
    subst e
    obtain ⟨es, c, hb⟩ := k.obj
    rw [hb] at h3
    cases h3
/-- What put answers. -/
def TputP (B gt bm : Nat) (l : Wk) (go co : Nat) (os : List Nat) (w : World) (e : Ending) (w' : World) : Prop :=
  e = .returned (.tuple #[]) ∧ ∃ v', TrailAt w' B gt bm v' l ∧ Below B w w'
set_option maxRecDepth 100000 in
set_option maxHeartbeats 4000000 in
theorem tput_any {w : World} {B gt bm go co : Nat} {v : Value} {l : Wk} {os : List Nat} (T : TrailAt w B gt bm v l) (hO : Row w go 54 co (u32s os)) (hne : v.ownBlock ≠ some go) (hB : B ≤ w.heap.size)
    (h32 : ∀ x ∈ os, x < 4294967296) (hk : ∀ x ∈ os, kindM x = 2) (by_ : Int) (hby : (Lit.int .i64 by_).wf = true) (hlen : l.length + os.length ≤ 1000000000) :
    Calls Tryz.prog 260 #[.pointer (some ⟨gt, 0, none⟩), .int .i64 by_, .slice (some ⟨go, 0, none⟩) os.length co] w (TputP B gt bm (putsW l os by_) go co os w) := by
  have HT := Lib.hid T
  have HO := Lib.hid hO
  have HNE := Lib.hid hne
  have H32 := Lib.hid h32
  have HK := Lib.hid hk
  have HBY := Lib.hid hby
  obtain ⟨i0, hi0, hz0, hz1, hz2⟩ := info_parts info_oop
  clear T hO hne h32 hk hby
  go_enter Tryz.func260, Tryz.ntmps260
  go_wp2_with fail
  go_loopw [7, 8, 9, 12] (fun _ _ _ iv wr => ∃ (k : Nat) (v' : Value), iv = .int .i64 k ∧ k ≤ os.length ∧ TrailAt wr B gt bm v' (putsW l (os.take k) by_) ∧ Row wr go 54 co (u32s os) ∧ v'.ownBlock ≠ some go ∧ Below B w wr) (fun _ _ _ iv _ => os.length - (intOf iv).toNat)
  case atStart => exact ⟨0, v, rfl, by omega, HT.out, HO.out, HNE.out, Below.refl _ _⟩
  case round =>
    clear HT HO HNE
    obtain ⟨k, v', rfl, hk, ht, ho, hne, hb⟩ := hrel
    have HT := Lib.hid ht
    have HO := Lib.hid ho
    have HNE := Lib.hid hne
    have HB := Lib.hid hb
    clear ht ho hne hb
    by_cases hlt : k < os.length
    · have hcl := HO.out.cell (u32s_get (l := os) (i := k) hlt)
      have hx32 : os.getD k 0 < 4294967296 := getD_u32 H32.out k
      have HS := Lib.hid (show putsW l (os.take (k + 1)) by_ = putW (putsW l (os.take k) by_) (os.getD k 0) by_ by
        rw [List.take_add_one, List.getElem?_eq_getElem hlt, List.getD_eq_getElem?_getD, List.getElem?_eq_getElem hlt]
        exact putsW_snoc _ _ _ _)
      have HKX := Lib.hid (show kindM (os.getD k 0) = 2 from HK.out _ (by rw [List.getD_eq_getElem?_getD, List.getElem?_eq_getElem hlt]; exact List.getElem_mem _))
      have HL := Lib.hid (show (putsW l (os.take k) by_).length ≤ 1000000000 - 1 from by
        have h1 : (putsW l (os.take k) by_).length ≤ l.length + (os.take k).length := by
          generalize os.take k = q
          clear HT HO HNE HB HS HKX hcl hx32 hlt hk H32 HK HBY hi0 hz0 hz1 hz2 hlen
          induction q generalizing l with
          | nil => simp [putsW]
          | cons a q ih =>
            rw [putsW_cons]
            have := ih (l := putW l a by_)
            have : (putW l a by_).length ≤ l.length + 1 := by unfold putW; split <;> simp
            simp only [List.length_cons]
            omega
        rw [List.length_take] at h1
        omega)
      generalize os.getD k 0 = x at *
      generalize putsW l (os.take k) by_ = L at *
      have c0 := HT.out.box.cell 0
      have c1 := HT.out.box.cell 1
      have z0 := HT.out.box.frozen 0
      have hlook := HT.out.map.look_ok tyOI hx32
      by_cases hin : x ∈ metO L
      · have hdec : decide (x ∈ metO L) = true := by simpa using hin
        rw [hdec] at hlook
        have HN := Lib.hid (show putW L x by_ = L from putW_old (fun h => h.2 hin))
        generalize byOf L x = bx at hlook
        clear hdec hin
        go_wp2_with fail
        go_roundw
        case rel => exact ⟨k + 1, v', by go_num, by omega, by rw [HS.out, HN.out]; exact HT.out, HO.out, HNE.out, HB.out⟩
        case measure => simp [intOf]; omega
      · have hdec : decide (x ∈ metO L) = false := by simpa using hin
        rw [hdec] at hlook
        have HN := Lib.hid (show putW L x by_ = L ++ [(x, by_)] from putW_new HKX.out hin)
        have HIN := Lib.hid hin
        obtain ⟨w2, hrun, hmp, hg2⟩ := HT.out.map.put tyOI hx32 HBY.out (by have := HL.out; omega)
        have HMP := Lib.hid hmp
        have HG2 := Lib.hid hg2
        have HW2 := Lib.hid (show ∀ q, q < wr.heap.size → q ≠ bm → w2.heap[q]? = wr.heap[q]? from fun q hq hn => hg2.block q hq (fun e => by cases e; exact hn rfl))
        have n1 := HT.out.map.ne_blk HT.out.box
        have n2 := HT.out.map.ne_row HO.out
        have n3 := (HO.out.ne_blk HT.out.box (by decide))
        have hsz2 : wr.heap.size ≤ w2.heap.size := hg2.size
        have HBX := Lib.hid (HT.out.box.same (HW2.out gt HT.out.box.lt (fun e => n1 e.symm)))
        have HO2 := Lib.hid (HO.out.same (HW2.out go HO.out.lt (fun e => n2 e.symm)))
        have HOW := Lib.hid (show w2.ownsRow B 54 1 v' L.length (u32s (metO L)) from by
          have h0 := HT.out.own
          refine ⟨h0.1, ?_⟩
          rcases h0.2 with h1 | ⟨g, cap, cur, h1, h2, h3, h4⟩
          · exact .inl h1
          · exact .inr ⟨g, cap, cur, h1, h2, (HW2.out g (lt_of_get h3) (fun e => by subst e; obtain ⟨es, cc, hb⟩ := HT.out.map.obj; rw [hb] at h3; cases h3)).trans h3, h4⟩)
        have HB2 := Lib.hid (show Below B w w2 from HB.out.trans ⟨hg2.os, hg2.tape, hg2.output, hg2.size, fun q hq => HW2.out q (by have := HB.out.size; omega) (by have := HT.out.hm; omega)⟩)
        have HMB := Lib.hid (HT.out.m32)
        have HGM := Lib.hid (And.intro HT.out.hg HT.out.hm)
        generalize byOf L x = bx at hlook
        clear hdec hin hmp hg2 n1 n2
        go_upto_region 6 with fail
        have c0' := HBX.out.cell 0
        have hOWne : v'.ownBlock ≠ some gt := own_ne_blk HOW.out HBX.out (by decide)
        have hOWnm : v'.ownBlock ≠ some bm := own_ne_map HOW.out HMP.out
        have HNS := Lib.hid (And.intro hOWne hOWnm)
        have hb2s : B ≤ w2.heap.size := by have := HB2.out.size; omega
        clear c0 c1 z0 hlook hOWne hOWnm n3
        have hLl := HL.out
        go_wp2_with (at_builtin; refine wpList_append_any _ rfl (.tmp 37) (.tmp 39) _ rfl B 54 i0 _ 1 4 Tryz.underlying101 hi0 hz0 hz1 hz2 rfl (by omega) v' L.length _ rfl (own_keep HOW.out (fun q hq => Below.heap_alloc w2 (.cells #[.int .u32 (x : Int)] 54) q (HOW.out.lt q hq).2)) (w2.heap.size + 1) (some ⟨w2.heap.size, 0, none⟩) 1 1 (u32s [x]) rfl ⟨rfl, fun _ => ⟨_, rfl, by simp, cell_one_new _ _ _⟩⟩ (one_u32 _) (by simp only [maxLen]; omega) (by omega) (by simp; omega) ?_; intro v1 w3 hown3 hgrow3 hat3; obtain ⟨A3, c3, rfl⟩ := own_val hown3; have HG3 := Lib.hid (fun q (hq : q < w2.heap.size) (hn : v'.ownBlock ≠ some q) => (hgrow3.block q (by simp; omega) (fun e => hn (by first | exact e | exact e.symm))).trans (Below.heap_alloc w2 (.cells #[.int .u32 (x : Int)] 54) q hq)); have HBX3 := Lib.hid (HBX.out.same (HG3.out gt HBX.out.lt HNS.out.1)); have hz3 := HBX3.out.frozen 0; have hc3 := HBX3.out.cell 0)
        have HE := Lib.hid (show TrailAt (w3.setCell ⟨gt, 0, none⟩ (.slice A3 (L.length + 1) c3)) B gt bm (.slice A3 (L.length + 1) c3) (putW L x by_) ∧ Row (w3.setCell ⟨gt, 0, none⟩ (.slice A3 (L.length + 1) c3)) go 54 co (u32s os) ∧ (Value.slice A3 (L.length + 1) c3).ownBlock ≠ some go ∧ Below B w (w3.setCell ⟨gt, 0, none⟩ (.slice A3 (L.length + 1) c3)) from by
          have hsz3 : w2.heap.size ≤ w3.heap.size := Nat.le_trans (by simp) hgrow3.size
          have hset : ∀ q, q ≠ gt → (w3.setCell ⟨gt, 0, none⟩ (.slice A3 (L.length + 1) c3)).heap[q]? = w3.heap[q]? := fun q hq => Below.heap_setCell w3 ⟨gt, 0, none⟩ (.slice A3 (L.length + 1) c3) q hq
          have hmg : bm ≠ gt := HMP.out.ne_blk HBX.out
          have hown3' : w3.ownsRow B 54 1 (.slice A3 (L.length + 1) c3) (L ++ [(x, by_)]).length (u32s (metO (L ++ [(x, by_)]))) := by
            rw [metO_snoc, u32s_app, List.length_append]
            exact hown3
          rw [HN.out]
          refine ⟨⟨HBX3.out.set_ 0 (.slice A3 (L.length + 1) c3), own_keep hown3' (fun q hq => hset q (fun e => own_ne_blk hown3' HBX3.out (by decide) (e ▸ hq))), ?_, HGM.out.1, HGM.out.2, fun y hy => ?_⟩, ?_, ?_, ?_⟩
          · rw [byOf_put HIN.out, metB_put, List.length_append]
            exact HMP.out.same ((hset bm hmg).trans (HG3.out bm HMP.out.lt HNS.out.2))
          · rw [metO_snoc] at hy
            rcases List.mem_append.1 hy with hy | hy
            · exact HMB.out y hy
            · rcases List.mem_singleton.1 hy with rfl
              exact hx32
          · exact HO2.out.same ((hset go (HO2.out.ne_blk HBX.out (by decide))).trans (HG3.out go HO2.out.lt HNE.out))
          · intro e
            rcases hat3 with h | h
            · exact HNE.out (h ▸ e)
            · rw [h] at e
              injection e with e
              have := HO2.out.lt
              simp at e
              omega
          · refine HB2.out.trans ⟨hgrow3.os, hgrow3.tape, hgrow3.output, ?_, fun q hq => ?_⟩
            · simp [World.setCell]; exact hsz3
            · exact (hset q (by have := HGM.out.1; omega)).trans (HG3.out q (by omega) (fun e => by have := (HOW.out.lt q e).1; omega)))
        clear hown3 hgrow3 hat3 HG3 HBX3
        go_wp2_with fail
        go_roundw
        case rel => exact ⟨k + 1, (.slice A3 (L.length + 1) c3), by go_num, by omega, by rw [HS.out]; exact HE.out.1, HE.out.2.1, HE.out.2.2.1, HE.out.2.2.2⟩
        case measure => simp [intOf]; omega
    · obtain rfl : k = os.length := by omega
      have HE := Lib.hid HT.out
      rw [List.take_length] at HE
      clear HT
      go_wp2_with fail
      refine bodyPost_end (v := .tuple #[]) (by simp [results, Tryz.results260, go_sem]) rfl ?_
      exact ⟨rfl, v', HE.out, HB.out⟩
end Go.Proofs.YtlkahgagmfhdaaaGreatDoor

namespace Go.Proofs.YtlkahgagmfhdaaaGreatDoor
open Go.RowKit
attribute [local go_sem] Oper.semAt_some
/-- What walk answers: all that is held, in memory. -/
def WalkP (h : HM) (fr : List Nat) (w : World) (e : Ending) (w' : World) : Prop :=
  ∃ gt bm v, e = .returned (.pointer (some ⟨gt, 0, none⟩)) ∧ TrailAt w' w.heap.size gt bm v (walkM (heldM h) fr) ∧ Below w.heap.size w w'
theorem metO_getD (L : Wk) (i : Nat) : (metO L).getD i 0 = (L.getD i (0, 0)).1 := by
  unfold metO
  rw [List.getD_eq_getElem?_getD, List.getD_eq_getElem?_getD, List.getElem?_map]
  cases L[i]? <;> rfl
theorem metO_mem {L : Wk} {i : Nat} (hi : i < L.length) : (metO L).getD i 0 ∈ metO L := by
  rw [List.getD_eq_getElem?_getD, List.getElem?_eq_getElem (by rw [metO_len]; exact hi)]
  exact List.getElem_mem _
theorem putsW_isB {h : HM} {L : Wk} {os : List Nat} {b : Int} (hL : ∀ o ∈ metO L, h.isB o = true) (ho : ∀ x ∈ os, kindM x = 2 → h.isB x = true) : ∀ o ∈ metO (putsW L os b), h.isB o = true := by
  intro o hm
  rcases putsW_mem.1 hm with h1 | ⟨h1, h2⟩
  · exact hL o h1
  · exact ho o h1 h2
theorem nam_len {h : HM} {l : List Ob} (G : h.Good l) {o : Nat} (hi : h.isB o = true) (held : Bool) : (namM h o held).length ≤ 65536 := by
  have h1 := fields_len G hi
  have h2 := hd_size G hi
  unfold namM heldM namesM
  cases held <;> simp only [List.length_cons, if_true, Bool.false_eq_true, if_false] <;> split <;> (try simp only [List.length_nil]) <;> omega
theorem putsW_filter (L : Wk) (os : List Nat) (b : Int) : putsW L (os.filter k2) b = putsW L os b := putsW_only L os b
section
variable {w : World} {p : HP} {h : HM} {l : List Ob}
set_option maxRecDepth 100000 in
set_option maxHeartbeats 4000000 in
theorem walk_any (H : HAt w p h) (G : h.Good l) (hs : Spares w) {go co : Nat} {os : List Nat} (hO : Row w go 54 co (u32s os)) (hv : ∀ x ∈ os, h.isB x = true) (hol : os.length ≤ 1048576) :
    Calls Tryz.prog 218 #[ptr p.g, .slice (some ⟨go, 0, none⟩) os.length co] w (WalkP h os w) := by
  have HH := Lib.hid (fun (w' : World) (hb : Below w.heap.size w w') => H.below hb)
  have HS := Lib.hid (fun (w' : World) (hb : Below w.heap.size w w') => hs.below hb)
  have HG := Lib.hid G
  have HV := Lib.hid hv
  have hb1 : Below w.heap.size w ((w.alloc (.map #[] 0)).alloc (.cells #[.slice none 0 0, .map (some w.heap.size)] 323)) := ((Below.refl _ w).alloc (Nat.le_refl _) _).alloc (by simp) _
  have hbx := Blk.new (w.alloc (.map #[] 0)) 323 #[.slice none 0 0, .map (some w.heap.size)]
  rw [World.size_alloc] at hbx
  have T0 : TrailAt ((w.alloc (.map #[] 0)).alloc (.cells #[.slice none 0 0, .map (some w.heap.size)] 323)) w.heap.size (w.heap.size + 1) w.heap.size (.slice none 0 0) [] :=
    ⟨hbx, ⟨rfl, .inl ⟨rfl, rfl⟩⟩, (MapE.made w 54 3 .i64).same (Below.heap_alloc _ _ _ (by simp)), by omega, Nat.le_refl _, fun x hx => by simp [metO] at hx⟩
  have HP1 := Lib.hid (tput_any T0 (hO.below hb1) (fun e => by cases e) hb1.size (fun x hx => isB_u32 G (hv x hx)) (fun x hx => isB_kind (hv x hx)) (-1) (by decide) (by simp; omega))
  have HB1 := Lib.hid hb1
  clear hb1 hbx T0 H G hs hv hO
  unfold ptr at HH ⊢
  have hmm := @run_makeMap Tryz.prog
  go_enter Tryz.func218, Tryz.ntmps218
  go_wp2_with fail
  refine wp_scope_jumps 0 (fun a' w' => ∃ (i : Nat) (L : Wk) (v : Value), GoW (heldM h) os i L ∧ TrailAt w' w.heap.size (w.heap.size + 1) w.heap.size v L ∧ (∀ o ∈ metO L, h.isB o = true) ∧ Below w.heap.size w w' ∧ ∃ u7 u8 u9 u10 u11 u12 u13 u14 u15 u16 u17 u18 u19 u20 u21 u22 u23 u24 u25 u26 u27 u28 u29 u30 u31 u32 u33 u34, a' = { tmps := #[.pointer (some ⟨p.g, 0, none⟩), .slice (some ⟨go, 0, none⟩) os.length co, undef, undef, .pointer none, .pointer (some ⟨w.heap.size + 1, 0, none⟩), .int .i64 (i : Int), u7, u8, u9, u10, u11, u12, u13, u14, u15, u16, u17, u18, u19, u20, u21, u22, u23, u24, u25, u26, u27, u28, u29, u30, u31, u32, u33, u34], defers := [] }) (fun a' _ => 4194304 - (intOf (a'.tmps.getD 6 undef)).toNat) rfl ?_ ?_
  · go_wp2_with fail
    refine HP1.out.mono ?_
    rintro e w2 ⟨rfl, v2, h21, h22⟩
    have HT := Lib.hid h21
    have HB := Lib.hid (HB1.out.trans h22)
    have HGO := Lib.hid (GoW.start (heldM h) os)
    have HIS := Lib.hid (show ∀ x ∈ metO (putsW [] os (-1)), h.isB x = true from putsW_isB (fun o ho => by simp [metO] at ho) (fun x hx _ => HV.out x hx))
    clear h21 h22 HP1 HB1
    generalize putsW [] os (-1) = L at *
    generalize v2 = v at *
    go_wp2_with fail
    go_step3
    have HLN := Lib.hid (wk_len HG.out HGO.out.nodup HIS.out)
    by_cases hi : 0 < L.length
    · obtain ⟨gv, cv, hvv, hrv, _, hgv⟩ := Row.of_any HT.out.own (by omega)
      subst hvv
      have hcl := hrv.cell (u32s_get (l := metO L) (i := 0) (by rw [metO_len]; exact hi))
      have hgl := hrv.lt
      have c0 := HT.out.box.cell 0
      have HOI := Lib.hid (HIS.out _ (metO_mem hi))
      have HNX := Lib.hid (HGO.out.next hi HLN.out)
      rw [← metO_getD] at HNX
      have HIN := Lib.hid hi
      have hLl := HLN.out
      generalize (metO L).getD 0 0 = o at *
      have HNM := Lib.hid (named_any (HH.out w2 HB.out) HG.out (HS.out w2 HB.out) HOI.out true)
      have hnl := nam_len HG.out HOI.out true
      have hsz := HB.out.size
      unfold ptr at HNM
      clear hrv hi
      go_wp2_with fail
      refine HNM.out.mono ?_
      rintro e w5 ⟨g5, c5, rfl, h51, h52, h53⟩
      have h32 := nam_32 HG.out HOI.out true
      have HPT := Lib.hid (tput_any (HT.out.below h53) h52 (fun e => by have : gv = g5 := Option.some.inj e; omega) (Nat.le_trans hsz h53.size) (fun x hx => h32 x (List.mem_filter.1 hx).1) (fun x hx => by have := (List.mem_filter.1 hx).2; unfold k2 at this; simpa using this) 0 (by decide) (by have := List.length_filter_le k2 (namM h o true); omega))
      rw [putsW_filter] at HPT
      have HB5 := Lib.hid (HB.out.trans (h53.mono hsz))
      clear h51 h52 h53 h32 HNM hcl c0 HT HB
      go_wp2_with fail
      refine HPT.out.mono ?_
      rintro e w6 ⟨rfl, v6, h61, h62⟩
      have H61 := Lib.hid (show TrailAt w6 w.heap.size (w.heap.size + 1) w.heap.size v6 (putsW L (heldM h o) 0) from h61)
      have HB6 := Lib.hid (HB5.out.trans h62)
      have HIS6 := Lib.hid (show ∀ x ∈ metO (putsW L (heldM h o) 0), h.isB x = true from putsW_isB HIS.out (fun x hx hk => names_isB HG.out HOI.out (held_names hx) hk))
      clear h61 h62 HPT HB5 HIS hgl hgv
      go_wp2_with fail
      go_step3
      refine ⟨rfl, 1, _, v6, HNX.out, H61.out, HIS6.out, HB6.out, _, _, _, _, _, _, _, _, _, _, _, _, _, _, _, _, _, _, _, _, _, _, _, _, _, _, _, _, rfl⟩
    · have HD := Lib.hid (HGO.out.done hi HLN.out)
      obtain ⟨Av, cv, hvv⟩ := own_val HT.out.own
      subst hvv
      have c0 := HT.out.box.cell 0
      go_wp2_with fail
      try simp only [Exit.jump]
      go_ret
      exact ⟨_, _, _, rfl, by rw [HD.out]; exact HT.out, HB.out⟩
  · rintro a' wr ⟨i, L, v, hgo, ht, his, hb, u7, u8, u9, u10, u11, u12, u13, u14, u15, u16, u17, u18, u19, u20, u21, u22, u23, u24, u25, u26, u27, u28, u29, u30, u31, u32, u33, u34, rfl⟩
    have HT := Lib.hid ht
    have HB := Lib.hid hb
    have HGO := Lib.hid hgo
    have HIS := Lib.hid his
    clear hgo ht his hb HP1 HB1 HV
    have HLN := Lib.hid (wk_len HG.out HGO.out.nodup HIS.out)
    by_cases hi : i < L.length
    · obtain ⟨gv, cv, hvv, hrv, _, hgv⟩ := Row.of_any HT.out.own (by omega)
      subst hvv
      have hcl := hrv.cell (u32s_get (l := metO L) (i := i) (by rw [metO_len]; exact hi))
      have hgl := hrv.lt
      have c0 := HT.out.box.cell 0
      have HOI := Lib.hid (HIS.out _ (metO_mem hi))
      have HNX := Lib.hid (HGO.out.next hi HLN.out)
      rw [← metO_getD] at HNX
      have HIN := Lib.hid hi
      have hLl := HLN.out
      generalize (metO L).getD i 0 = o at *
      have HNM := Lib.hid (named_any (HH.out wr HB.out) HG.out (HS.out wr HB.out) HOI.out true)
      have hnl := nam_len HG.out HOI.out true
      have hsz := HB.out.size
      unfold ptr at HNM
      clear hrv hi
      go_wp2_with fail
      refine HNM.out.mono ?_
      rintro e w5 ⟨g5, c5, rfl, h51, h52, h53⟩
      have h32 := nam_32 HG.out HOI.out true
      have HPT := Lib.hid (tput_any (HT.out.below h53) h52 (fun e => by have : gv = g5 := Option.some.inj e; omega) (Nat.le_trans hsz h53.size) (fun x hx => h32 x (List.mem_filter.1 hx).1) (fun x hx => by have := (List.mem_filter.1 hx).2; unfold k2 at this; simpa using this) (i : Int) (wf_i64 (by omega)) (by have := List.length_filter_le k2 (namM h o true); omega))
      rw [putsW_filter] at HPT
      have HB5 := Lib.hid (HB.out.trans (h53.mono hsz))
      clear h51 h52 h53 h32 HNM hcl c0 HT HB
      go_wp2_with fail
      refine HPT.out.mono ?_
      rintro e w6 ⟨rfl, v6, h61, h62⟩
      have H61 := Lib.hid (show TrailAt w6 w.heap.size (w.heap.size + 1) w.heap.size v6 (putsW L (heldM h o) (i : Int)) from h61)
      have HB6 := Lib.hid (HB5.out.trans h62)
      have HIS6 := Lib.hid (show ∀ x ∈ metO (putsW L (heldM h o) (i : Int)), h.isB x = true from putsW_isB HIS.out (fun x hx hk => names_isB HG.out HOI.out (held_names hx) hk))
      clear h61 h62 HPT HB5 HIS hgl hgv
      go_wp2_with fail
      go_step3
      refine ⟨rfl, ⟨i + 1, _, v6, HNX.out, H61.out, HIS6.out, HB6.out, _, _, _, _, _, _, _, _, _, _, _, _, _, _, _, _, _, _, _, _, _, _, _, _, _, _, _, _, rfl⟩, ?_⟩
      have h1 := HIN.out
      have h2 := HLN.out
      show 4194304 - (((i + 1 : Nat) : Int)).toNat < 4194304 - ((i : Nat) : Int).toNat
      omega
    · have HD := Lib.hid (HGO.out.done hi HLN.out)
      obtain ⟨Av, cv, hvv⟩ := own_val HT.out.own
      subst hvv
      have c0 := HT.out.box.cell 0
      go_wp2_with fail
      try simp only [Exit.jump]
      go_ret
      exact ⟨_, _, _, rfl, by rw [HD.out]; exact HT.out, HB.out⟩
end
end Go.Proofs.YtlkahgagmfhdaaaGreatDoor
