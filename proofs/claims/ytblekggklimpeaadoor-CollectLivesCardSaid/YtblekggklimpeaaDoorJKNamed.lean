/- What an object names: named. -/
/- A collection: where the live objects lie and would lie, and what is left. Plain data. -/
import Derived.Test.YtblekggklimpeaaDoorJKWalk
import Derived.Test.YtblekggklimpeaaDoorJLive
import Derived.Test.YtblekggklimpeaaDoorJScript
set_option linter.unusedVariables false
set_option linter.unusedSimpArgs false
set_option linter.unusedSectionVars false
namespace Go.Proofs.YtblekggklimpeaaDoor
open Go.RowKit
attribute [local go_sem] Oper.semAt_some
section
variable {w : World} {p : HP} {h : HM} {l : List Ob}
theorem fields_len (G : h.Good l) {o : Nat} (hi : h.isB o = true) : (h.fields o).length = (h.hd (o / 2)).size := by
  obtain ⟨a, b, c, rfl, rfl⟩ := (G.laid.isB_iff o).1 hi
  rw [G.laid.fields_at, half_pos, G.laid.hd_at, G.laid.ok_at.size]
theorem hd_size (G : h.Good l) {o : Nat} (hi : h.isB o = true) : (h.hd (o / 2)).size ≤ 65535 := by
  obtain ⟨a, b, c, rfl, rfl⟩ := (G.laid.isB_iff o).1 hi
  rw [half_pos, G.laid.hd_at]
  have k := G.laid.ok_at
  have := k.may
  unfold Hd.may at this
  simp at this
  omega
theorem isB_u32 (G : h.Good l) {o : Nat} (hi : h.isB o = true) : o < 4294967296 := by
  obtain ⟨a, b, c, rfl, rfl⟩ := (G.laid.isB_iff o).1 hi
  have := G.laid.words_len
  have := G.fit.room
  have := G.fit.hi
  omega
theorem kget_any (H : HAt w p h) (G : h.Good l) (hs : Spares w) {o : Nat} (hi : h.isB o = true) (hp : (h.hd (o / 2)).ptrB = true) (i : Nat) (hlt : i < (h.fields o).length) :
    Calls Tryd.prog 26 #[ptr p.g, .int .u32 o, .int .i64 i] w (Told (.tuple #[.int .u32 ((h.fields o).getD i 0 : Nat), .int .i64 0]) w) := by
  have ho := isB_u32 G hi
  have hG := get_any H G.fit G.laid.heads hs o ho (i : Int)
  have hfl := fields_len G hi
  have hp' : (h.hd (o / 2)).fmt = 1 ∨ (h.hd (o / 2)).fmt = 4 := by
    unfold Hd.ptrB at hp
    simpa using hp
  have hln : (h.hd (o / 2)).len = (h.hd (o / 2)).size := by unfold Hd.len; rw [if_neg (by omega)]
  have he : h.lookE o (i : Int) [1, 4] = 0 := by
    unfold HM.lookE
    rw [hi, if_neg (by decide), if_neg (by rcases hp' with e | e <;> rw [e] <;> decide), if_neg (by omega)]
  have hw : fw h o i = (h.fields o).getD i 0 := by
    obtain ⟨a, b, c, rfl, rfl⟩ := (G.laid.isB_iff o).1 hi
    rw [G.laid.fields_at] at hlt ⊢
    exact G.laid.f_at i hlt
  unfold HM.readV at hG
  rw [he, if_pos rfl, Int.toNat_natCast, hw] at hG
  exact hG
def namM (h : HM) (o : Nat) (held : Bool) : List Nat := if held then heldM h o else namesM h o
/-- What named answers: a new row. -/
def NamedP (os : List Nat) (w : World) (e : Ending) (w' : World) : Prop :=
  ∃ g c, e = .returned (.slice (some ⟨g, 0, none⟩) (os.filter k2).length c) ∧ w.heap.size ≤ g ∧ Row w' g 41 c (u32s (os.filter k2)) ∧ Below w.heap.size w w'
theorem names_32 (G : h.Good l) {o : Nat} (hi : h.isB o = true) : ∀ x ∈ namesM h o, x < 4294967296 := by
  obtain ⟨a, b, c, rfl, rfl⟩ := (G.laid.isB_iff o).1 hi
  intro x hx
  unfold namesM at hx
  rw [half_pos, G.laid.hd_at, G.laid.fields_at] at hx
  have k := G.laid.ok_at
  rcases List.mem_cons.1 hx with rfl | hx
  · exact k.fit.cls
  · split at hx
    · exact k.f32 x hx
    · cases hx
theorem nam_32 (G : h.Good l) {o : Nat} (hi : h.isB o = true) (held : Bool) : ∀ x ∈ namM h o held, x < 4294967296 := by
  intro x hx
  refine names_32 G hi x ?_
  unfold namM at hx
  split at hx
  · exact held_names hx
  · exact hx
theorem one_u32 (x : Nat) : ∀ u ∈ u32s [x], u.oneCell' = true := by
  intro u hu
  rcases List.mem_singleton.1 hu with rfl
  rfl
theorem u32s_app (a b : List Nat) : u32s (a ++ b) = u32s a ++ u32s b := by unfold u32s; rw [List.map_append]
theorem own_newO (w : World) (xs : List Nat) (n : Nat) (hl : xs.length = n) (hn : n ≤ maxLen) : (w.alloc (.cells (u32s xs).toArray 41)).ownsRow w.heap.size 41 1 (.slice (some ⟨w.heap.size, 0, none⟩) n n) n (u32s xs) := by
  subst hl
  exact ⟨by simp [u32s_len], .inr ⟨w.heap.size, xs.length, (u32s xs).toArray, rfl, Nat.le_refl _, heap_alloc_new w _, Nat.le_refl _, hn, by simp [u32s_len], by rw [Nat.mul_one, List.take_of_length_le (by simp [u32s])]⟩⟩
theorem own_base {w : World} {B B' s n : Nat} {e : TypeId} {v : Value} {xs : List Value} (h : w.ownsRow B e s v n xs) (hb : B' ≤ B) : w.ownsRow B' e s v n xs := by
  refine ⟨h.1, ?_⟩
  rcases h.2 with h1 | ⟨g, cap, cur, h1, h2, h3⟩
  · exact .inl h1
  · exact .inr ⟨g, cap, cur, h1, Nat.le_trans hb h2, h3⟩
theorem own_below {w w' : World} {B s n : Nat} {e : TypeId} {v : Value} {xs : List Value} (h : w.ownsRow B e s v n xs) (hb : Below w.heap.size w w') : w'.ownsRow B e s v n xs := by
  refine ⟨h.1, ?_⟩
  rcases h.2 with h1 | ⟨g, cap, cur, h1, h2, h3, h4⟩
  · exact .inl h1
  · exact .inr ⟨g, cap, cur, h1, h2, (hb.block g (lt_of_get h3)).trans h3, h4⟩
theorem only_end {w w3 : World} {os : List Nat} {v : Value} (hown : w3.ownsRow w.heap.size 41 1 v os.length (u32s os)) (h0 : 0 < os.length) (hn : os.length ≤ 9223372036854775807) (h32 : ∀ x ∈ os, x < 4294967296) (hb : Below w.heap.size w w3) :
    Calls Tryd.prog 57 #[v] w3 (NamedP os w) := by
  obtain ⟨g, c, rfl, hr, _, hg⟩ := Row.of_any hown h0
  refine (only_any g c os hr hn h32).mono ?_
  rintro e w4 ⟨rfl, hr4, hf⟩
  exact ⟨g, c, rfl, hg, hr4, hb.trans (hf.below hg hb.size)⟩
set_option maxRecDepth 100000 in
set_option maxHeartbeats 4000000 in
theorem named_any (H : HAt w p h) (G : h.Good l) (hs : Spares w) {o : Nat} (hi : h.isB o = true) (held : Bool) :
    Calls Tryd.prog 82 #[ptr p.g, .int .u32 o, .bool held] w (NamedP (namM h o held) w) := by
  have HH := Lib.hid (Header_any H G.fit G.laid.heads hs o (isB_u32 G hi))
  have hV : h.headerV o = .tuple #[(h.hd (o / 2)).val, .int .i64 0] := by unfold HM.headerV; simp [hi]
  rw [hV] at HH
  have HG := Lib.hid (fun (w' : World) (hb : Below w.heap.size w w') (hp : (h.hd (o / 2)).ptrB = true) i hlt => kget_any (H.below hb) G (hs.below hb) hi hp i hlt)
  have h32 := nam_32 G hi held
  have hfl := fields_len G hi
  have hsz := hd_size G hi
  have HN := Lib.hid (show namM h o held = (h.hd (o / 2)).cls :: (if (if held = true then (h.hd (o / 2)).fmt = 1 else (h.hd (o / 2)).ptrB = true) then h.fields o else []) from by
    unfold namM heldM namesM
    cases held <;> simp)
  clear hV H G hs hi
  generalize h.hd (o / 2) = X at *
  generalize h.fields o = fs at *
  generalize namM h o held = ns at *
  have H32 := Lib.hid h32
  clear h32
  obtain ⟨i0, hi0, hz0, hz1, hz2⟩ := info_parts info_oop
  obtain ⟨n, t, s, c, r⟩ := X
  simp only at HG HN hfl hsz
  unfold Hd.val at HH
  unfold ptr at HH HG ⊢
  go_enter Tryd.func82, Tryd.ntmps82
  go_wp2_with fail
  refine HH.out.mono ?_
  rintro e w1 ⟨rfl, hb1⟩
  have hb2 := hb1.alloc hb1.size (.cells #[.int .i64 (n : Int), .int .i64 (t : Int), .int .i64 (s : Int), .int .u32 (c : Int), .int .u32 (r : Int)] 56)
  have BX := Lib.hid ((Blk.new w1 56 #[.int .i64 (n : Int), .int .i64 (t : Int), .int .i64 (s : Int), .int .u32 (c : Int), .int .u32 (r : Int)]).alloc (.cells #[.int .u32 (c : Int)] 41))
  have hown := own_newO (w1.alloc (.cells #[.int .i64 (n : Int), .int .i64 (t : Int), .int .i64 (s : Int), .int .u32 (c : Int), .int .u32 (r : Int)] 56)) [c] 1 rfl (by decide)
  rw [World.size_alloc] at hown
  have HOW := Lib.hid (show ((w1.alloc (.cells #[.int .i64 (n : Int), .int .i64 (t : Int), .int .i64 (s : Int), .int .u32 (c : Int), .int .u32 (r : Int)] 56)).alloc (.cells #[.int .u32 (c : Int)] 41)).ownsRow w.heap.size 41 1 (.slice (some ⟨w1.heap.size + 1, 0, none⟩) 1 1) 1 (u32s [c]) from own_base hown (by have := hb1.size; omega))
  have HB3 := Lib.hid (hb2.alloc hb2.size (.cells #[.int .u32 (c : Int)] 41))
  clear hb1 hb2 HH hown
  go_upto_region 3 with fail
  generalize (w1.alloc (.cells #[.int .i64 (n : Int), .int .i64 (t : Int), .int .i64 (s : Int), .int .u32 (c : Int), .int .u32 (r : Int)] 56)).alloc (.cells #[.int .u32 (c : Int)] 41) = W3 at *
  obtain ⟨x0, x1, x2, x3, x4⟩ := BX.out.cells5
  clear BX
  have HPD : ∀ b, Hd.ptrB ⟨n, b, s, c, r⟩ = (decide (b = 1) || decide (b = 4)) := fun _ => rfl
  by_cases h1 : t = 1
  · have hi1 : ((t : Int) == 1) = true := by simp; omega
    have HPT := Lib.hid (show Hd.ptrB ⟨n, t, s, c, r⟩ = true by simp [Hd.ptrB, h1])
    have HNS := Lib.hid (show ns = c :: fs by rw [HN.out]; cases held <;> simp [Hd.ptrB, h1])
    clear HN HPD h1
    go_wp2_with fail
    clear x0 x1 x2 x3 x4
    go_loopw [9, 10, 11, 12, 36] (fun lv _ _ _ iv wr => ∃ k : Nat, iv = .int .i64 k ∧ k ≤ n ∧ wr.ownsRow w.heap.size 41 1 lv (k + 1) (u32s (c :: fs.take k)) ∧ Below w.heap.size w wr) (fun _ _ _ _ iv _ => n - (intOf iv).toNat)
    case atStart => exact ⟨0, rfl, by omega, HOW.out, HB3.out⟩
    case round =>
      clear HOW HB3
      obtain ⟨k, rfl, hk, hown, hb⟩ := hrel
      have HOW := Lib.hid hown
      have HB := Lib.hid hb
      clear hown hb
      by_cases hlt : k < n
      · have HGT := Lib.hid (HG.out wr HB.out HPT.out k (by rw [hfl]; exact hlt))
        have hsn : u32s (c :: fs.take k) ++ u32s [fs.getD k 0] = u32s (c :: fs.take (k + 1)) := by
          rw [← u32s_app, List.cons_append, List.take_add_one, List.getElem?_eq_getElem (by rw [hfl]; exact hlt), List.getD_eq_getElem?_getD, List.getElem?_eq_getElem (by rw [hfl]; exact hlt)]
          rfl
        have HSN := Lib.hid hsn
        clear hsn
        generalize fs.getD k 0 = y at HGT HSN
        go_wp2_with fail
        refine HGT.out.mono ?_
        rintro e w5 ⟨rfl, hb5⟩
        have HO5 := Lib.hid (own_below HOW.out hb5)
        have HB5 := Lib.hid (HB.out.trans (hb5.mono HB.out.size))
        have hBw : w.heap.size ≤ w5.heap.size := HB5.out.size
        clear hb5 HOW HGT HB
        go_wp2_with (at_builtin; refine wpList_append_any _ rfl (.tmp 46) (.tmp 48) _ rfl w.heap.size 41 i0 _ 1 4 Tryd.underlying23 hi0 hz0 hz1 hz2 rfl (by omega) u9 (k + 1) _ rfl (HO5.out.alloc _) (w5.heap.size + 1) (some ⟨w5.heap.size, 0, none⟩) 1 1 (u32s [y]) rfl ⟨rfl, fun _ => ⟨_, rfl, by simp, cell_one_new _ _ _⟩⟩ (one_u32 _) (by simp only [maxLen]; omega) (by omega) (by simp; omega) ?_; intro v1 w6 hown6 hgrow hat6)
        go_roundw
        case rel =>
          exact ⟨k + 1, by go_num, by omega, by rw [← HSN.out]; exact hown6, below_grown (Nat.le_refl _) (HB5.out.alloc HB5.out.size _) hgrow (fun q hq => (HO5.out.lt q hq).1)⟩
        case measure => simp [intOf]; omega
      · obtain rfl : k = n := by omega
        have hns : ns = c :: fs.take k := by rw [HNS.out, List.take_of_length_le (by rw [hfl]; exact Nat.le_refl _)]
        have hnl : ns.length = k + 1 := by rw [hns]; simp; omega
        have HE := Lib.hid (only_end (w := w) (os := ns) (by rw [hnl, hns]; exact HOW.out) (by omega) (by omega) H32.out HB.out)
        clear HOW HB hns
        go_wp2_with fail
        refine HE.out.mono ?_
        rintro e w7 ⟨g7, c7, rfl, h71, h72, h73⟩
        have H7 := Lib.hid (show NamedP ns w (.returned (.slice (some ⟨g7, 0, none⟩) (ns.filter k2).length c7)) w7 from ⟨g7, c7, rfl, h71, h72, h73⟩)
        clear h71 h72 h73 HE
        go_wp2_with fail
        go_ret
        exact H7.out
  by_cases h4 : t = 4
  · have hi1 : ((t : Int) == 1) = false := by simp; omega
    have hi4 : ((t : Int) == 4) = true := by simp; omega
    cases held with
    | false =>
      have HPT := Lib.hid (show Hd.ptrB ⟨n, t, s, c, r⟩ = true by simp [Hd.ptrB, h4])
      have HNS := Lib.hid (show ns = c :: fs by rw [HN.out]; simp [Hd.ptrB, h4])
      clear HN HPD h1 h4
      go_wp2_with fail
      clear x0 x1 x2 x3 x4
      go_loopw [9, 10, 11, 12, 36] (fun lv _ _ _ iv wr => ∃ k : Nat, iv = .int .i64 k ∧ k ≤ n ∧ wr.ownsRow w.heap.size 41 1 lv (k + 1) (u32s (c :: fs.take k)) ∧ Below w.heap.size w wr) (fun _ _ _ _ iv _ => n - (intOf iv).toNat)
      case atStart => exact ⟨0, rfl, by omega, HOW.out, HB3.out⟩
      case round =>
        clear HOW HB3
        obtain ⟨k, rfl, hk, hown, hb⟩ := hrel
        have HOW := Lib.hid hown
        have HB := Lib.hid hb
        clear hown hb
        by_cases hlt : k < n
        · have HGT := Lib.hid (HG.out wr HB.out HPT.out k (by rw [hfl]; exact hlt))
          have hsn : u32s (c :: fs.take k) ++ u32s [fs.getD k 0] = u32s (c :: fs.take (k + 1)) := by
            rw [← u32s_app, List.cons_append, List.take_add_one, List.getElem?_eq_getElem (by rw [hfl]; exact hlt), List.getD_eq_getElem?_getD, List.getElem?_eq_getElem (by rw [hfl]; exact hlt)]
            rfl
          have HSN := Lib.hid hsn
          clear hsn
          generalize fs.getD k 0 = y at HGT HSN
          go_wp2_with fail
          refine HGT.out.mono ?_
          rintro e w5 ⟨rfl, hb5⟩
          have HO5 := Lib.hid (own_below HOW.out hb5)
          have HB5 := Lib.hid (HB.out.trans (hb5.mono HB.out.size))
          have hBw : w.heap.size ≤ w5.heap.size := HB5.out.size
          clear hb5 HOW HGT HB
          go_wp2_with (at_builtin; refine wpList_append_any _ rfl (.tmp 46) (.tmp 48) _ rfl w.heap.size 41 i0 _ 1 4 Tryd.underlying23 hi0 hz0 hz1 hz2 rfl (by omega) u9 (k + 1) _ rfl (HO5.out.alloc _) (w5.heap.size + 1) (some ⟨w5.heap.size, 0, none⟩) 1 1 (u32s [y]) rfl ⟨rfl, fun _ => ⟨_, rfl, by simp, cell_one_new _ _ _⟩⟩ (one_u32 _) (by simp only [maxLen]; omega) (by omega) (by simp; omega) ?_; intro v1 w6 hown6 hgrow hat6)
          go_roundw
          case rel =>
            exact ⟨k + 1, by go_num, by omega, by rw [← HSN.out]; exact hown6, below_grown (Nat.le_refl _) (HB5.out.alloc HB5.out.size _) hgrow (fun q hq => (HO5.out.lt q hq).1)⟩
          case measure => simp [intOf]; omega
        · obtain rfl : k = n := by omega
          have hns : ns = c :: fs.take k := by rw [HNS.out, List.take_of_length_le (by rw [hfl]; exact Nat.le_refl _)]
          have hnl : ns.length = k + 1 := by rw [hns]; simp; omega
          have HE := Lib.hid (only_end (w := w) (os := ns) (by rw [hnl, hns]; exact HOW.out) (by omega) (by omega) H32.out HB.out)
          clear HOW HB hns
          go_wp2_with fail
          refine HE.out.mono ?_
          rintro e w7 ⟨g7, c7, rfl, h71, h72, h73⟩
          have H7 := Lib.hid (show NamedP ns w (.returned (.slice (some ⟨g7, 0, none⟩) (ns.filter k2).length c7)) w7 from ⟨g7, c7, rfl, h71, h72, h73⟩)
          clear h71 h72 h73 HE
          go_wp2_with fail
          go_ret
          exact H7.out
    | true =>
      have HNS := Lib.hid (show ns = [c] by rw [HN.out]; simp [h4])
      clear HN HPD h1 h4 HG
      have HE := Lib.hid (only_end (w := w) (os := ns) (by rw [HNS.out]; exact HOW.out) (by rw [HNS.out]; simp) (by rw [HNS.out]; simp) H32.out HB3.out)
      have hnl : ns.length = 1 := by rw [HNS.out]; rfl
      clear HOW HB3 HNS
      go_wp2_with fail
      refine HE.out.mono ?_
      rintro e w7 ⟨g7, c7, rfl, h71, h72, h73⟩
      have H7 := Lib.hid (show NamedP ns w (.returned (.slice (some ⟨g7, 0, none⟩) (ns.filter k2).length c7)) w7 from ⟨g7, c7, rfl, h71, h72, h73⟩)
      clear h71 h72 h73 HE
      go_wp2_with fail
      go_ret
      exact H7.out
  · have hi1 : ((t : Int) == 1) = false := by simp; omega
    have hi4 : ((t : Int) == 4) = false := by simp; omega
    have HNS := Lib.hid (show ns = [c] by rw [HN.out]; cases held <;> simp [Hd.ptrB, h1, h4])
    clear HN HPD h1 h4 HG
    have HE := Lib.hid (only_end (w := w) (os := ns) (by rw [HNS.out]; exact HOW.out) (by rw [HNS.out]; simp) (by rw [HNS.out]; simp) H32.out HB3.out)
    have hnl : ns.length = 1 := by rw [HNS.out]; rfl
    clear HOW HB3 HNS
    go_wp2_with fail
    refine HE.out.mono ?_
    rintro e w7 ⟨g7, c7, rfl, h71, h72, h73⟩
    have H7 := Lib.hid (show NamedP ns w (.returned (.slice (some ⟨g7, 0, none⟩) (ns.filter k2).length c7)) w7 from ⟨g7, c7, rfl, h71, h72, h73⟩)
    clear h71 h72 h73 HE
    go_wp2_with fail
    go_ret
    exact H7.out

end
end Go.Proofs.YtblekggklimpeaaDoor

namespace Go.Proofs.YtblekggklimpeaaDoor
open Go.RowKit

theorem getD_pre {α : Type} {l l' : List α} {d : α} (hp : l <+: l') {j : Nat} (hj : j < l.length) : l'.getD j d = l.getD j d := by
  obtain ⟨t, rfl⟩ := hp
  exact getD_app_left _ _ _ _ hj
/-- What is met holds nothing but what is met. -/
theorem walkF_shut (nm : Nat → List Nat) : ∀ (f i : Nat) (l : Wk), (walkF nm f i l).length < f + i → (∀ j, j < i → j < l.length → ∀ x ∈ nm (l.getD j (0, 0)).1, kindM x = 2 → x ∈ metO l) →
    ∀ j, j < (walkF nm f i l).length → ∀ x ∈ nm ((walkF nm f i l).getD j (0, 0)).1, kindM x = 2 → x ∈ metO (walkF nm f i l)
  | 0, i, l, hf, h => by
    intro j hj x hx hk
    unfold walkF at hf hj hx ⊢
    exact h j (by omega) hj x hx hk
  | f + 1, i, l, hf, h => by
    by_cases hi : i < l.length
    · have e : walkF nm (f + 1) i l = walkF nm f (i + 1) (putsW l (nm (l.getD i (0, 0)).1) (i : Int)) := by
        conv => lhs; unfold walkF
        rw [if_pos hi]
      rw [e] at hf ⊢
      refine walkF_shut nm f (i + 1) _ (by omega) (fun j hj hjl x hx hk => ?_)
      have hp := putsW_pre l (nm (l.getD i (0, 0)).1) (i : Int)
      rcases Nat.lt_or_ge j i with h1 | h1
      · rw [getD_pre hp (by omega)] at hx
        exact putsW_mem.2 (.inl (h j h1 (by omega) x hx hk))
      · obtain rfl : j = i := by omega
        rw [getD_pre hp hi] at hx
        exact putsW_mem.2 (.inr ⟨hx, hk⟩)
    · have e : walkF nm (f + 1) i l = l := by unfold walkF; rw [if_neg hi]
      rw [e] at hf ⊢
      intro j hj x hx hk
      exact h j (by omega) hj x hx hk
theorem metO_get {l : Wk} {o : Nat} (h : o ∈ metO l) : ∃ j, j < l.length ∧ (l.getD j (0, 0)).1 = o := by
  unfold metO at h
  obtain ⟨p, hp, rfl⟩ := List.mem_map.1 h
  obtain ⟨j, hj, rfl⟩ := List.getElem_of_mem hp
  exact ⟨j, hj, by rw [List.getD_eq_getElem?_getD, List.getElem?_eq_getElem hj]; rfl⟩
section
variable {h : HM} {l : List Ob}
theorem walk_len (G : h.Good l) {fr : List Nat} (hf : ∀ x ∈ fr, h.valB x = true) : (walkM (heldM h) fr).length ≤ 1048576 := wk_len G (walkM_nodup _ _) (walk_isB G hf)
theorem walk_shut (G : h.Good l) {fr : List Nat} (hf : ∀ x ∈ fr, h.valB x = true) {o x : Nat} (ho : o ∈ metO (walkM (heldM h) fr)) (hx : x ∈ heldM h o) (hk : kindM x = 2) : x ∈ metO (walkM (heldM h) fr) := by
  obtain ⟨j, hj, rfl⟩ := metO_get ho
  have hl := walk_len G hf
  exact walkF_shut (heldM h) 2097152 0 _ (by unfold walkM at hl; omega) (fun j hj => by omega) j hj x hx hk
theorem walk_root {nm : Nat → List Nat} {fr : List Nat} {x : Nat} (hx : x ∈ fr) (hk : kindM x = 2) : x ∈ metO (walkM nm fr) := by
  obtain ⟨t, ht⟩ := walkF_pre nm 2097152 0 (putsW [] fr (-1))
  unfold walkM
  rw [← ht]
  unfold metO
  rw [List.map_append]
  exact List.mem_append_left _ (putsW_mem.2 (.inr ⟨hx, hk⟩))
/-- The live objects, with what they are. -/
def keepZ (h : HM) (l : List Ob) : List (Nat × Ob) := ((oopsL l).zip l).filter (fun p => decide (p.1 ∈ metO (walkM (heldM h) h.roots)))
theorem keepZ_fst (h : HM) (l : List Ob) : (keepZ h l).map (·.1) = liveO h l := by
  unfold liveO
  have e : oopsL l = ((oopsL l).zip l).map (·.1) := (List.map_fst_zip (by rw [oopsL_len]; exact Nat.le_refl _)).symm
  conv => rhs; rw [e]
  rw [List.filter_map]
  rfl
theorem keepZ_len (h : HM) (l : List Ob) : (keepZ h l).length = (liveO h l).length := by rw [← keepZ_fst, List.length_map]
theorem keepZ_snd (h : HM) (l : List Ob) : ((keepZ h l).map (·.2)).Sublist l := by
  have e : l = ((oopsL l).zip l).map (·.2) := (List.map_snd_zip (by rw [oopsL_len]; exact Nat.le_refl _)).symm
  conv => rhs; rw [e]
  exact List.Sublist.map _ List.filter_sublist
theorem keepZ_mem {p : Nat × Ob} (hp : p ∈ keepZ h l) : ∃ j, ∃ hj : j < l.length, p.1 = 2 * posOf (l.take j) ∧ p.2 = l[j] ∧ p.1 ∈ metO (walkM (heldM h) h.roots) := by
  unfold keepZ at hp
  rw [List.mem_filter] at hp
  obtain ⟨hz, hd⟩ := hp
  obtain ⟨j, hj, rfl⟩ := List.getElem_of_mem hz
  rw [List.length_zip, oopsL_len] at hj
  have hj' : j < l.length := by omega
  refine ⟨j, hj', ?_, ?_, by simpa using hd⟩
  · rw [List.getElem_zip]
    have := oopsL_get hj'
    rw [List.getElem?_eq_getElem (by rw [oopsL_len]; exact hj')] at this
    injection this
  · rw [List.getElem_zip]
theorem keepZ_nodup (h : HM) (l : List Ob) : ((keepZ h l).map (·.1)).Nodup := by
  rw [keepZ_fst, List.nodup_iff_pairwise_ne]
  exact (liveO_lt h l).imp (fun h => by omega)
/-- A live object's class and fields. -/
theorem keepZ_held (G : h.Good l) {p : Nat × Ob} (hp : p ∈ keepZ h l) : heldM h p.1 = p.2.x.cls :: (if p.2.x.fmt = 1 then p.2.fs else []) := by
  obtain ⟨j, hj, h1, h2, _⟩ := keepZ_mem hp
  have L := G.laid
  rw [split_at l j hj] at L
  unfold heldM
  rw [h1, half_pos, L.hd_at, L.fields_at, h2]
/-- Where they lie and would lie, from a word on. -/
def planF : Nat → List (Nat × Ob) → List (Nat × Nat)
  | _, [] => []
  | a, p :: r => (p.1, 2 * a) :: planF (a + 3 + p.2.fs.length) r
def planM (h : HM) (l : List Ob) : List (Nat × Nat) := planF 1 (keepZ h l)
theorem planF_len : ∀ (a : Nat) (z : List (Nat × Ob)), (planF a z).length = z.length
  | _, [] => rfl
  | a, p :: r => by simp [planF, planF_len]
theorem planF_fst : ∀ (a : Nat) (z : List (Nat × Ob)), (planF a z).map (·.1) = z.map (·.1)
  | _, [] => rfl
  | a, p :: r => by simp [planF, planF_fst]
theorem planF_get : ∀ (a : Nat) (z : List (Nat × Ob)) (k : Nat) (hk : k < z.length), (planF a z)[k]? = some ((z[k]).1, 2 * (a + (wsOf ((z.take k).map (·.2))).length))
  | a, p :: r, 0, _ => by simp [planF, wsOf_nil]
  | a, p :: r, k + 1, hk => by
    have := planF_get (a + 3 + p.2.fs.length) r k (by simpa using hk)
    simp only [planF, List.getElem?_cons_succ, List.getElem_cons_succ, List.take_succ_cons, List.map_cons, wsOf_cons, List.length_append, Ob.ws_len]
    rw [this]
    congr 3
    omega
theorem planM_fst (h : HM) (l : List Ob) : (planM h l).map (·.1) = liveO h l := by unfold planM; rw [planF_fst, keepZ_fst]
/-- Where an object goes; 0: it is not live. -/
def goesM (pl : List (Nat × Nat)) (x : Nat) : Nat := ((pl.find? (fun p => p.1 == x)).map (·.2)).getD 0
def whereM (pl : List (Nat × Nat)) (x : Nat) : Nat := if kindM x = 2 then goesM pl x else x
theorem goesM_no {pl : List (Nat × Nat)} {x : Nat} (h : x ∉ pl.map (·.1)) : goesM pl x = 0 := by
  unfold goesM
  have h0 : pl.find? (fun p => p.1 == x) = none := by
    rw [List.find?_eq_none]
    intro p hp he
    exact h (List.mem_map.2 ⟨p, hp, by simpa using he⟩)
  rw [h0]; rfl
theorem goesM_at {pl : List (Nat × Nat)} (hd : (pl.map (·.1)).Nodup) {k : Nat} {p : Nat × Nat} (hk : pl[k]? = some p) : goesM pl p.1 = p.2 := by
  induction pl generalizing k with
  | nil => cases hk
  | cons q pl ih =>
    rw [List.map_cons, List.nodup_cons] at hd
    cases k with
    | zero =>
      rw [List.getElem?_cons_zero] at hk
      injection hk with hk
      subst hk
      simp [goesM]
    | succ k =>
      rw [List.getElem?_cons_succ] at hk
      have hne : (q.1 == p.1) = false := by
        rw [beq_eq_false_iff_ne]
        intro e
        exact hd.1 (e ▸ List.mem_map.2 ⟨p, List.mem_of_getElem? hk, rfl⟩)
      have := ih hd.2 hk
      unfold goesM at this ⊢
      rw [List.find?_cons, hne]
      exact this
/-- What a field becomes. -/
def fldM (pl : List (Nat × Nat)) (void x : Nat) : Nat := if kindM x = 2 ∧ x ∉ pl.map (·.1) then void else whereM pl x
def relob (pl : List (Nat × Nat)) (void : Nat) (b : Ob) : Ob := ⟨{ b.x with cls := whereM pl b.x.cls }, if b.x.ptrB then b.fs.map (fldM pl void) else b.fs⟩
def voidM (h : HM) (l : List Ob) : Nat := whereM (planM h l) (h.roots.getD 0 0)
/-- What a collection leaves. -/
def colL (h : HM) (l : List Ob) : List Ob := (keepZ h l).map (fun p => relob (planM h l) (voidM h l) p.2)
def colR (h : HM) (l : List Ob) : List Nat := h.roots.map (whereM (planM h l))
def colH (h : HM) (l : List Ob) : HM := HM.ofWords h.size (0 :: wsOf (colL h l)) (colR h l) h.last
theorem relob_len (pl : List (Nat × Nat)) (void : Nat) (b : Ob) : (relob pl void b).fs.length = b.fs.length := by unfold relob; simp only; split <;> simp
theorem wsOf_same {g : Ob → Ob} (hg : ∀ b, (g b).fs.length = b.fs.length) (L : List Ob) : (wsOf (L.map g)).length = (wsOf L).length := by
  induction L with
  | nil => rfl
  | cons b L ih => rw [List.map_cons, wsOf_cons, wsOf_cons, List.length_append, List.length_append, ih, Ob.ws_len, Ob.ws_len, hg]
theorem wsOf_sub {a b : List Ob} (h : a.Sublist b) : (wsOf a).length ≤ (wsOf b).length := by
  induction h with
  | slnil => exact Nat.le_refl _
  | cons x _ ih => rw [wsOf_cons, List.length_append]; omega
  | cons_cons x _ ih => rw [wsOf_cons, wsOf_cons, List.length_append, List.length_append]; omega
theorem colL_eq (h : HM) (l : List Ob) : colL h l = ((keepZ h l).map (·.2)).map (relob (planM h l) (voidM h l)) := by unfold colL; rw [List.map_map]; rfl
theorem colL_len (h : HM) (l : List Ob) : (colL h l).length = (keepZ h l).length := by unfold colL; rw [List.length_map]
theorem colL_words (h : HM) (l : List Ob) : (wsOf (colL h l)).length ≤ (wsOf l).length := by
  rw [colL_eq, wsOf_same (relob_len _ _)]
  exact wsOf_sub (keepZ_snd h l)
theorem plan_get (h : HM) (l : List Ob) {k : Nat} (hk : k < (keepZ h l).length) : (planM h l)[k]? = some (((keepZ h l)[k]).1, 2 * posOf ((colL h l).take k)) := by
  unfold planM
  rw [planF_get 1 _ k hk]
  congr 3
  unfold posOf
  rw [colL_eq, ← List.map_take, wsOf_same (relob_len _ _), List.map_take]
theorem goes_live (h : HM) (l : List Ob) {o : Nat} (ho : o ∈ liveO h l) : ∃ k, k < (colL h l).length ∧ goesM (planM h l) o = 2 * posOf ((colL h l).take k) := by
  rw [← keepZ_fst] at ho
  obtain ⟨p, hp, rfl⟩ := List.mem_map.1 ho
  obtain ⟨k, hk, rfl⟩ := List.getElem_of_mem hp
  refine ⟨k, by rw [colL_len]; exact hk, ?_⟩
  exact goesM_at (by rw [planM_fst, ← keepZ_fst]; exact keepZ_nodup h l) (plan_get h l hk)
theorem posOf_take_le (L : List Ob) (k : Nat) : posOf (L.take k) ≤ 1 + (wsOf L).length := by
  unfold posOf
  have := wsOf_sub (List.take_sublist k L)
  omega
theorem goes_lt (G : h.Good l) (o : Nat) : goesM (planM h l) o < 4294967296 := by
  by_cases ho : o ∈ liveO h l
  · obtain ⟨k, hk, e⟩ := goes_live h l ho
    rw [e]
    have h1 := posOf_take_le (colL h l) k
    have h2 := colL_words h l
    have h3 := G.fit.room
    have h4 := G.fit.hi
    rw [G.laid.words, List.length_cons] at h3
    omega
  · rw [goesM_no (by rw [planM_fst]; exact ho)]; decide
theorem where_lt (G : h.Good l) {o : Nat} (ho : o < 4294967296) : whereM (planM h l) o < 4294967296 := by
  unfold whereM
  split
  · exact goes_lt G o
  · exact ho
theorem roots_lt (G : h.Good l) (i : Nat) : h.roots.getD i 0 < 4294967296 := by
  rw [List.getD_eq_getElem?_getD]
  cases hh : h.roots[i]? with
  | none => simp
  | some v => simp; exact G.fit.r32 v (List.mem_of_getElem? hh)
theorem void_lt (G : h.Good l) : voidM h l < 4294967296 := where_lt G (roots_lt G 0)
theorem fld_lt (G : h.Good l) {o : Nat} (ho : o < 4294967296) : fldM (planM h l) (voidM h l) o < 4294967296 := by
  unfold fldM
  split
  · exact void_lt G
  · exact where_lt G ho
theorem relob_ok (G : h.Good l) {b : Ob} (k : b.Ok) : (relob (planM h l) (voidM h l) b).Ok := by
  refine ⟨⟨k.fit.size, k.fit.fmt, k.fit.spare, where_lt G k.fit.cls, k.fit.ser⟩, k.may, by rw [relob_len]; exact k.size, fun f hf => ?_⟩
  unfold relob at hf
  simp only at hf
  split at hf
  · obtain ⟨g, hg, rfl⟩ := List.mem_map.1 hf
    exact fld_lt G (k.f32 g hg)
  · exact k.f32 f hf
theorem keepZ_ok (G : h.Good l) {p : Nat × Ob} (hp : p ∈ keepZ h l) : p.2.Ok := by
  obtain ⟨j, hj, _, h2, _⟩ := keepZ_mem hp
  rw [h2]
  exact G.laid.ok _ (List.getElem_mem hj)
theorem colL_ok (G : h.Good l) : ∀ b ∈ colL h l, b.Ok := by
  intro b hb
  unfold colL at hb
  obtain ⟨p, hp, rfl⟩ := List.mem_map.1 hb
  exact relob_ok G (keepZ_ok G hp)
theorem col_parse (G : h.Good l) : parseW (0 :: wsOf (colL h l)) = some (colL h l) := parseW_obs (colL_ok G)
theorem col_laid (G : h.Good l) : (colH h l).Laid (colL h l) :=
  ⟨rfl, by show false :: msOf ((parseW (0 :: wsOf (colL h l))).getD []) = _; rw [col_parse G]; rfl, colL_ok G⟩
theorem col_isB (G : h.Good l) {o : Nat} (ho : o ∈ liveO h l) : (colH h l).isB (goesM (planM h l) o) = true := by
  obtain ⟨k, hk, e⟩ := goes_live h l ho
  rw [e]
  exact ((col_laid G).isB_iff _).2 ⟨_, _, _, split_at _ k hk, rfl⟩
theorem live_of_held (G : h.Good l) {p : Nat × Ob} (hp : p ∈ keepZ h l) {x : Nat} (hx : x ∈ heldM h p.1) (hk : kindM x = 2) : x ∈ liveO h l := by
  obtain ⟨j, hj, h1, h2, h3⟩ := keepZ_mem hp
  exact (mem_liveO G).2 (walk_shut G G.sound.roots h3 hx hk)
theorem live_of_root (G : h.Good l) {x : Nat} (hx : x ∈ h.roots) (hk : kindM x = 2) : x ∈ liveO h l := (mem_liveO G).2 (walk_root hx hk)
theorem val_where (G : h.Good l) {x : Nat} (hx : kindM x = 2 → x ∈ liveO h l) : (colH h l).valB (whereM (planM h l) x) = true := by
  unfold HM.valB
  rw [Bool.or_eq_true]
  unfold whereM
  by_cases hk : kindM x = 2
  · rw [if_pos hk]; exact .inr (col_isB G (hx hk))
  · rw [if_neg hk]; exact .inl (by unfold objB; simpa using hk)
theorem void_val (G : h.Good l) : (colH h l).valB (voidM h l) = true :=
  val_where G (fun hk => by
    refine live_of_root G ?_ hk
    rw [List.getD_eq_getElem?_getD, List.getElem?_eq_getElem (by rw [G.fit.roots]; omega)]
    exact List.getElem_mem _)
theorem fld_val (G : h.Good l) (x : Nat) : (colH h l).valB (fldM (planM h l) (voidM h l) x) = true := by
  unfold fldM
  split
  · exact void_val G
  · rename_i hn
    exact val_where G (fun hk => Classical.byContradiction fun hc => hn ⟨hk, by rw [planM_fst]; exact hc⟩)
theorem col_sound (G : h.Good l) : (colH h l).Sound (colL h l) := by
  have hsub := keepZ_snd h l
  have hmem : ∀ p ∈ keepZ h l, p.2 ∈ l := fun p hp => hsub.subset (List.mem_map.2 ⟨p, hp, rfl⟩)
  refine ⟨fun b hb => ?_, fun b hb hpb f hf => ?_, fun b hb hf => ?_, fun b hb => ?_, ?_, fun r hr => ?_⟩
  · unfold colL at hb
    obtain ⟨p, hp, rfl⟩ := List.mem_map.1 hb
    show (colH h l).clsB (whereM (planM h l) p.2.x.cls) = true
    have hc := G.sound.cls p.2 (hmem p hp)
    unfold HM.clsB at hc ⊢
    rw [Bool.or_eq_true] at hc ⊢
    rcases hc with hc | hc
    · have hc : p.2.x.cls = 0 := by simpa using hc
      rw [hc]
      exact .inl (by simp [whereM, kindM])
    · have hk := isB_kind hc
      unfold whereM
      rw [if_pos hk]
      exact .inr (col_isB G (live_of_held G hp (by rw [keepZ_held G hp]; simp) hk))
  · unfold colL at hb
    obtain ⟨p, hp, rfl⟩ := List.mem_map.1 hb
    unfold relob at hf
    simp only at hf
    split at hf
    · obtain ⟨g, hg, rfl⟩ := List.mem_map.1 hf
      exact fld_val G g
    · rename_i hno
      exact absurd hpb hno
  · unfold colL at hb
    obtain ⟨p, hp, rfl⟩ := List.mem_map.1 hb
    have hf2 : p.2.x.fmt = 2 := hf
    have hnp : p.2.x.ptrB = false := by unfold Hd.ptrB; simp [hf2]
    unfold relob
    simp only [hnp, Bool.false_eq_true, if_false]
    exact G.sound.spare p.2 (hmem p hp) hf2
  · unfold colL at hb
    obtain ⟨p, hp, rfl⟩ := List.mem_map.1 hb
    exact G.sound.sers p.2 (hmem p hp)
  · have e : (colL h l).map (fun o => o.x.ser) = ((keepZ h l).map (·.2)).map (fun o => o.x.ser) := by
      rw [colL_eq, List.map_map]
      rfl
    rw [e]
    exact (hsub.map _).nodup G.sound.nodup
  · unfold colH HM.ofWords colR at hr
    obtain ⟨x, hx, rfl⟩ := List.mem_map.1 hr
    exact val_where G (fun hk => live_of_root G hx hk)
theorem col_w32 (G : h.Good l) : ∀ x ∈ 0 :: wsOf (colL h l), x < 4294967296 := by
  intro x hx
  rcases List.mem_cons.1 hx with rfl | hx
  · decide
  · unfold wsOf at hx
    obtain ⟨b, hb, hx⟩ := List.mem_flatMap.1 hx
    have k := colL_ok G b hb
    have := w0_lt k.fit
    unfold Ob.ws at hx
    simp only [List.mem_cons] at hx
    rcases hx with rfl | rfl | rfl | hx
    · omega
    · exact k.fit.cls
    · exact k.fit.ser
    · exact k.f32 x hx
theorem col_r32 (G : h.Good l) : ∀ x ∈ colR h l, x < 4294967296 := by
  intro x hx
  unfold colR at hx
  obtain ⟨y, hy, rfl⟩ := List.mem_map.1 hx
  exact where_lt G (G.fit.r32 y hy)
theorem col_room (G : h.Good l) : (0 :: wsOf (colL h l)).length ≤ h.words.length := by
  rw [G.laid.words, List.length_cons, List.length_cons]
  have := colL_words h l
  omega
/-- What a collection leaves is a heap. -/
theorem col_good (G : h.Good l) : (colH h l).Good (colL h l) :=
  HM.ofWords_good G.fit.lo G.fit.hi (col_w32 G) (col_r32 G) (by unfold colR; rw [List.length_map]; exact G.fit.roots) G.fit.l32 (Nat.le_trans (col_room G) G.fit.room) (col_parse G) (col_sound G)
theorem col_loadOk (G : h.Good l) : LoadOk h.size (0 :: wsOf (colL h l)) (colR h l) h.last := ⟨colL h l, col_parse G, col_sound G⟩
/-- What a collection came to. -/
def movedN (h : HM) (l : List Ob) : Nat := ((planM h l).filter (fun p => decide (p.1 ≠ p.2))).length
def deadB (pl : List (Nat × Nat)) (x : Nat) : Bool := decide (kindM x = 2 ∧ x ∉ pl.map (·.1))
def clearedB (pl : List (Nat × Nat)) (b : Ob) : Nat := if b.x.ptrB then (b.fs.filter (deadB pl)).length else 0
def clearedN (h : HM) (l : List Ob) : Nat := ((keepZ h l).map (fun p => clearedB (planM h l) p.2)).sum
end
end Go.Proofs.YtblekggklimpeaaDoor
