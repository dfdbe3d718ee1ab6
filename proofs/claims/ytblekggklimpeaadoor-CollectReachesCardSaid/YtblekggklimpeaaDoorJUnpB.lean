/- UnpackBytes of the program. -/
/- Bytes of the program's heap. -/
/- Numbers and words as bytes: the program's and the document's. -/
/- append onto a row of bytes of the call's own, as one step. -/
import Derived.Test.YtblekggklimpeaaDoorJAlloc
import Derived.Test.YtblekggklimpeaaDoorJMem
import Derived.Test.YtblekggklimpeaaDoorJLook
import Derived.Test.YtblekggklimpeaaDoorJOop
import Derived.Test.YtblekggklimpeaaDoorJClone
set_option linter.unusedVariables false
set_option linter.unusedSimpArgs false
set_option linter.unusedSectionVars false
namespace Go.Proofs.YtblekggklimpeaaDoor
open Go.RowKit

def bytes4 (x : Nat) : List Nat := [x % 256, x / 256 % 256, x / 65536 % 256, x / 16777216 % 256]
/-- The bytes of words. -/
def bytesM (ys : List Nat) : List Nat := ys.flatMap bytes4
theorem bytesM_len (ys : List Nat) : (bytesM ys).length = 4 * ys.length := by
  induction ys with
  | nil => rfl
  | cons x ys ih =>
    have : bytesM (x :: ys) = bytes4 x ++ bytesM ys := rfl
    rw [this, List.length_append, ih]
    simp [bytes4]; omega
theorem bytesM_take (ys : List Nat) (k x : Nat) (h : ys[k]? = some x) : bytesM (ys.take (k + 1)) = bytesM (ys.take k) ++ bytes4 x := by
  rw [List.take_add_one, h]
  simp [bytesM, List.flatMap_append]
theorem bytesM_lt (ys : List Nat) : ∀ b ∈ bytesM ys, b < 256 := by
  intro b hb
  unfold bytesM at hb
  rw [List.mem_flatMap] at hb
  obtain ⟨x, _, hb⟩ := hb
  simp [bytes4] at hb
  omega
/-- The error's number: bytes that are spare must be 0. -/
def spareE (ys : List Nat) (s : Nat) : Nat := if ((bytesM ys).drop (4 * ys.length - s)).all (· == 0) then 0 else 10

/-- What UnpackBytes answers. -/
def UnpB (ys : List Nat) (s : Nat) (w : World) (d : Ending) (w' : World) : Prop :=
  Below w.heap.size w w' ∧ if spareE ys s = 0 then ∃ g c, d = .returned (.tuple #[.slice (some ⟨g, 0, none⟩) (4 * ys.length - s) (4 * ys.length - s), .int .i64 0]) ∧ Row w' g 5 c (u8c (bytesM ys)) ∧ w.heap.size ≤ g
    else d = .returned (.tuple #[.slice none 0 0, .int .i64 10])

theorem u32s_at {zs : List Nat} {k : Nat} {u : Value} (h : (u32s zs)[k]? = some u) : ∃ x, zs[k]? = some x ∧ u = .int .u32 (x : Int) := by
  unfold u32s at h
  rw [List.getElem?_map] at h
  cases hz : zs[k]? with
  | none => rw [hz] at h; cases h
  | some x => rw [hz] at h; exact ⟨x, rfl, by injection h with h; exact h.symm⟩
theorem one_u8c (l : List Nat) : ∀ u ∈ u8c l, u.oneCell' = true := by
  intro u hu; obtain ⟨x, _, rfl⟩ := List.mem_map.1 hu; rfl
theorem make_u8 (F : Nat) (hF : F ≤ 4194304) (w : World) :
    (Instr.makeSlice 150 (.int .i64 0) (.int .i64 (F : Int))).run Tryd.prog w = .ok (.slice (some ⟨w.heap.size, 0, none⟩) 0 F) (w.alloc (.cells (zcells (.int .u8 0) F) 5)) := by
  obtain ⟨i0, hi0, hz0, hz1, hz2⟩ := info_parts info_u8
  have := run_make_rowN (P := Tryd.prog) 150 5 i0 _ Tryd.underlying150 hi0 hz0 .i64 .i64 0 F (by omega) (by rw [hz2]; omega) (by omega) w
  have e : madeCells (Value.int .u8 0).cells (F * 1) = zcells (.int .u8 0) F := by
    apply Array.ext
    · simp [madeCells, zcells, Value.cells]
    · intro i h1 h2
      simp [madeCells, zcells, Value.cells, Nat.mod_one]
  have e0 : ((0 : Nat) : Int) = 0 := rfl
  rw [e0] at this
  rw [this, hz1, e]
theorem zcells_row0 (w : World) (e : TypeId) (F : Nat) (z : Value) (hF : F ≤ maxLen) : Row (w.alloc (.cells (zcells z F) e)) w.heap.size e F [] :=
  ⟨zcells z F, Blk.new w _ _, by simp, hF, by simp [zcells], by simp⟩

theorem Row.ownsB {w : World} {g c B L : Nat} {e : TypeId} {xs : List Value} (h : Row w g e c xs) (hB : B ≤ g) (hl : xs.length = L) : w.ownsRow B e 1 (.slice (some ⟨g, 0, none⟩) L c) L xs := by
  subst hl
  obtain ⟨cur, hb, hl, hm, hc, hx⟩ := h
  exact ⟨by simp, .inr ⟨g, c, cur, rfl, hB, hb, hl, hm, by simpa using hc, by simpa using hx⟩⟩

theorem owns_alloc {w : World} {B e n : Nat} {v : Value} {xs : List Value} (h : w.ownsRow B e 1 v n xs) (o : Obj) : (w.alloc o).ownsRow B e 1 v n xs := by
  obtain ⟨h1, h2⟩ := h
  refine ⟨h1, ?_⟩
  rcases h2 with h2 | ⟨g, c, cur, hv, hB, hb, r⟩
  · exact .inl h2
  · exact .inr ⟨g, c, cur, hv, hB, Blk.alloc hb o, r⟩
theorem reads_new4 (w : World) (e : TypeId) (a b c d : Value) : Reads (w.alloc (.cells #[a, b, c, d] e)) (w.heap.size + 1) 1 (some ⟨w.heap.size, 0, none⟩) 4 [a, b, c, d] :=
  ⟨rfl, fun _ => ⟨_, rfl, by simp, fun j u hj => by
    rw [WideShapes.add_plain, Nat.zero_add, (Blk.new w _ _).cell]
    simpa using hj⟩⟩
theorem one4 (a b c d : Int) : ∀ u ∈ ([.int .u8 a, .int .u8 b, .int .u8 c, .int .u8 d] : List Value), u.oneCell' = true := by
  intro u hu
  simp at hu
  rcases hu with rfl | rfl | rfl | rfl <;> rfl
theorem bytes4_eq {w : World} {B e n : Nat} {v : Value} {ys : List Nat} {k x : Nat} {a b c d : Int} (h : w.ownsRow B e 1 v n (u8c (bytesM (ys.take k)) ++ [.int .u8 a, .int .u8 b, .int .u8 c, .int .u8 d]))
    (hk : bytesM (ys.take (k + 1)) = bytesM (ys.take k) ++ bytes4 x) (ha : a = (x : Int) % 256) (hb : b = (x : Int) / 256 % 256) (hc : c = (x : Int) / 65536 % 256) (hd : d = (x : Int) / 16777216 % 256) :
    w.ownsRow B e 1 v n (u8c (bytesM (ys.take (k + 1)))) := by
  subst ha hb hc hd
  rw [hk]
  simpa [u8c, bytes4] using h

theorem below_grown {w w1 w2 : World} {B : Nat} {b : Option Nat} (hBs : B ≤ w.heap.size) (h : Below B w w1) (hg : w1.grownBy w2 b) (hb : ∀ g, b = some g → B ≤ g) : Below B w w2 :=
  ⟨hg.os.trans h.os, hg.tape.trans h.tape, hg.output.trans h.output, Nat.le_trans h.size hg.size, fun k hk => (hg.block k (Nat.lt_of_lt_of_le hk (Nat.le_trans hBs h.size)) (fun e => by have := hb k e.symm; omega)).trans (h.block k hk)⟩
theorem spareE_zero (ys : List Nat) : spareE ys 0 = 0 := by
  unfold spareE
  rw [Nat.sub_zero, ← bytesM_len, List.drop_length]
  rfl

set_option maxRecDepth 100000 in
set_option maxHeartbeats 4000000 in
theorem unpackBytes_any {w : World} (A : Option Addr) (n c B s : Nat) (ys : List Nat) (hn : n ≤ 65535) (hr : Reads w B 1 A n (u32s ys)) (hB : B ≤ w.heap.size) (hb : ∀ x ∈ ys, x < 4294967296) (hs : s ≤ 3) (hs0 : 0 < s → 0 < n) :
    Calls Tryd.prog 104 #[.slice A n c, .int .i64 s] w (UnpB ys s w) := by
  have hl : ys.length = n := by have := hr.1; simpa [u32s] using this
  have HRD := Lib.hid hr
  have HBB := Lib.hid hb
  have HL := Lib.hid hl
  have hmk := make_u8 (4 * n) (by omega) w
  have hS := Lib.hid (show Row (w.alloc (.cells (zcells (.int .u8 0) (4 * n)) 5)) w.heap.size 5 (4 * n) (u8c (bytesM (ys.take 0))) from by simpa [bytesM, u8c] using zcells_row0 w 5 (4 * n) (.int .u8 0) (by simp only [maxLen]; omega))
  have HB0 := Lib.hid (show Below w.heap.size w (w.alloc (.cells (zcells (.int .u8 0) (4 * n)) 5)) from (Below.refl _ _).alloc (Nat.le_refl _) _)
  clear hr hb hl
  obtain ⟨N4, hN4⟩ : ∃ N4, 4 * n = N4 := ⟨_, rfl⟩
  have hN4i : 4 * (n : Int) = (N4 : Int) := by omega
  rw [hN4] at hmk hS HB0
  have HG := Lib.hid (show (s = 0 ∨ 0 < s ∧ 0 < n) by omega)
  have hnz : (decide (0 < (s : Int)) && ((n : Int) == 0)) = false := by
    by_cases h : 0 < s
    · have := hs0 h
      simp; omega
    · simp; omega
  have hpos : ∀ v : Bool, (if decide (0 < (s : Int)) = true then v else false) = (decide (0 < (s : Int)) && v) := fun v => by cases decide (0 < (s : Int)) <;> rfl
  clear hs0
  obtain ⟨i0, hi0, hz0, hz1, hz2⟩ := info_parts info_u8
  rcases (by have := HG.out; omega : s = 0 ∨ 0 < s ∧ ¬ n = 0) with h0 | ⟨h0, h1⟩
  · subst h0
    go_enter Tryd.func104, Tryd.ntmps104
    go_wp2_with fail
    clear hmk
    go_loopw [6, 36] (fun b i wr => ∃ (k g1 c1 L : Nat), k ≤ n ∧ i = .int .i64 k ∧ b = .slice (some ⟨g1, 0, none⟩) L c1 ∧ L = 4 * k ∧ Row wr g1 5 c1 (u8c (bytesM (ys.take k))) ∧ w.heap.size ≤ g1 ∧ Below w.heap.size w wr) (fun _ i _ => n - (intOf i).toNat)
    case atStart => exact ⟨0, _, _, _, by omega, rfl, rfl, rfl, hS.out, Nat.le_refl _, HB0.out⟩
    case round =>
      clear hS HB0
      obtain ⟨k, g1, c1, L, hk, rfl, rfl, hLk, hrow, hg1, hbel⟩ := hrel
      by_cases hlt : k < n
      · obtain ⟨ad, u0, hA, _, hx, hcell0⟩ := (HRD.out.below (hbel.mono hB)).at_ hlt
        obtain ⟨x, hxe, rfl⟩ := u32s_at hx
        have hx32 := HBB.out x (List.mem_of_getElem? hxe)
        have HTK := Lib.hid (bytesM_take ys k x hxe)
        have HOW := Lib.hid (show wr.ownsRow w.heap.size 5 1 (.slice (some ⟨g1, 0, none⟩) L c1) L (u8c (bytesM (ys.take k))) from by
          have hl : (u8c (bytesM (ys.take k))).length = L := by simp [u8c, bytesM_len, HL.out]; omega
          exact hrow.ownsB hg1 hl)
        subst hA
        have HBEL := Lib.hid hbel
        have HLK := Lib.hid hLk
        clear hrow hbel hx hxe hLk
        go_wp2_with (at_builtin; refine wpList_append_any _ rfl (.tmp 40) (.tmp 52) _ rfl w.heap.size 5 i0 _ 1 1 Tryd.underlying150 hi0 hz0 hz1 hz2 rfl (by omega) (.slice (some ⟨g1, 0, none⟩) L c1) L _ rfl (owns_alloc HOW.out _) (wr.heap.size + 1) (some ⟨wr.heap.size, 0, none⟩) 4 4 _ rfl (reads_new4 _ _ _ _ _ _) (one4 _ _ _ _) (by have := HLK.out; simp only [maxLen]; omega) (by have := HLK.out; omega) (by have := HBEL.out.size; simp; omega) ?_; intro v1 w5 hown5 hgrow hat5; obtain ⟨g5, c5, rfl, hrow5, hlen5, hge5⟩ := Row.of_any (bytes4_eq hown5 HTK.out (by omega) (by omega) (by omega) (by omega)) (by omega); clear hown5)
        go_roundw
        case rel => exact ⟨k + 1, g5, c5, L + 4, by omega, by go_num, rfl, by have := HLK.out; omega, hrow5, hge5, below_grown (Nat.le_refl _) ((HBEL.out).alloc HBEL.out.size _) hgrow (by simp [Value.ownBlock]; exact hg1)⟩
        case measure => simp [intOf]; omega
      · obtain rfl : k = n := by omega
        have HR := Lib.hid (show Row wr g1 5 c1 (u8c (bytesM ys)) from by rw [← HL.out, List.take_length] at hrow; exact hrow)
        have hLc : L ≤ c1 := by have := hrow; obtain ⟨_, _, h1, _⟩ := hrow; simp [u8c, bytesM_len, HL.out] at h1; omega
        have HBEL := Lib.hid hbel
        have hsl1 : L - L = 0 := by omega
        clear hrow hbel
        by_cases hc : c1 = L
        · subst hc
          go_wp2_with fail
          go_loopw [63] (fun i wr => i = .int .i64 0 ∧ Row wr g1 5 c1 (u8c (bytesM ys)) ∧ Below w.heap.size w wr) (fun _ _ => 0)
          case atStart => exact ⟨rfl, HR.out, HBEL.out⟩
          case round =>
            clear HR HBEL
            obtain ⟨rfl, hrow, hbel⟩ := hrel
            have HR := Lib.hid hrow
            have HBEL := Lib.hid hbel
            clear hrow hbel
            go_wp2_with fail
            go_ret2
            refine ⟨HBEL.out, ?_⟩
            rw [if_pos (spareE_zero ys)]
            exact ⟨g1, _, by rw [HL.out, Nat.sub_zero, hN4]; rfl, HR.out, hg1⟩
        · go_wp2_with fail
          go_loopw [63] (fun i wr => i = .int .i64 0 ∧ Row wr g1 5 c1 (u8c (bytesM ys)) ∧ Below w.heap.size w wr) (fun _ _ => 0)
          case atStart => exact ⟨rfl, HR.out, HBEL.out⟩
          case round =>
            clear HR HBEL
            obtain ⟨rfl, hrow, hbel⟩ := hrel
            have HR := Lib.hid hrow
            have HBEL := Lib.hid hbel
            clear hrow hbel
            go_wp2_with fail
            go_ret2
            refine ⟨HBEL.out, ?_⟩
            rw [if_pos (spareE_zero ys)]
            exact ⟨g1, _, by rw [HL.out, Nat.sub_zero, hN4]; rfl, HR.out, hg1⟩
  · have hnz2 : ((n : Int) == 0) = false := by simp; omega
    have hsp : decide (0 < (s : Int)) = true := by simp; omega
    clear hpos hnz
    go_enter Tryd.func104, Tryd.ntmps104
    go_wp2_with fail
    clear hmk
    go_loopw [6, 36] (fun b i wr => ∃ (k g1 c1 L : Nat), k ≤ n ∧ i = .int .i64 k ∧ b = .slice (some ⟨g1, 0, none⟩) L c1 ∧ L = 4 * k ∧ Row wr g1 5 c1 (u8c (bytesM (ys.take k))) ∧ w.heap.size ≤ g1 ∧ Below w.heap.size w wr) (fun _ i _ => n - (intOf i).toNat)
    case atStart => exact ⟨0, _, _, _, by omega, rfl, rfl, rfl, hS.out, Nat.le_refl _, HB0.out⟩
    case round =>
      clear hS HB0
      obtain ⟨k, g1, c1, L, hk, rfl, rfl, hLk, hrow, hg1, hbel⟩ := hrel
      by_cases hlt : k < n
      · obtain ⟨ad, u0, hA, _, hx, hcell0⟩ := (HRD.out.below (hbel.mono hB)).at_ hlt
        obtain ⟨x, hxe, rfl⟩ := u32s_at hx
        have hx32 := HBB.out x (List.mem_of_getElem? hxe)
        have HTK := Lib.hid (bytesM_take ys k x hxe)
        have HOW := Lib.hid (show wr.ownsRow w.heap.size 5 1 (.slice (some ⟨g1, 0, none⟩) L c1) L (u8c (bytesM (ys.take k))) from by
          have hl : (u8c (bytesM (ys.take k))).length = L := by simp [u8c, bytesM_len, HL.out]; omega
          exact hrow.ownsB hg1 hl)
        subst hA
        have HBEL := Lib.hid hbel
        have HLK := Lib.hid hLk
        clear hrow hbel hx hxe hLk
        go_wp2_with (at_builtin; refine wpList_append_any _ rfl (.tmp 40) (.tmp 52) _ rfl w.heap.size 5 i0 _ 1 1 Tryd.underlying150 hi0 hz0 hz1 hz2 rfl (by omega) (.slice (some ⟨g1, 0, none⟩) L c1) L _ rfl (owns_alloc HOW.out _) (wr.heap.size + 1) (some ⟨wr.heap.size, 0, none⟩) 4 4 _ rfl (reads_new4 _ _ _ _ _ _) (one4 _ _ _ _) (by have := HLK.out; simp only [maxLen]; omega) (by have := HLK.out; omega) (by have := HBEL.out.size; simp; omega) ?_; intro v1 w5 hown5 hgrow hat5; obtain ⟨g5, c5, rfl, hrow5, hlen5, hge5⟩ := Row.of_any (bytes4_eq hown5 HTK.out (by omega) (by omega) (by omega) (by omega)) (by omega); clear hown5)
        go_roundw
        case rel => exact ⟨k + 1, g5, c5, L + 4, by omega, by go_num, rfl, by have := HLK.out; omega, hrow5, hge5, below_grown (Nat.le_refl _) ((HBEL.out).alloc HBEL.out.size _) hgrow (by simp [Value.ownBlock]; exact hg1)⟩
        case measure => simp [intOf]; omega
      · obtain rfl : k = n := by omega
        obtain rfl : L = N4 := by omega
        have HR := Lib.hid (show Row wr g1 5 c1 (u8c (bytesM ys)) from by rw [← HL.out, List.take_length] at hrow; exact hrow)
        have hLc : L ≤ c1 := by have := hrow; obtain ⟨_, _, h1, _⟩ := hrow; simp [u8c, bytesM_len, HL.out] at h1; omega
        have hc63 : c1 ≤ 9223372036854775807 := by obtain ⟨_, _, _, h1, _⟩ := hrow; unfold maxLen at h1; exact h1
        have HBEL := Lib.hid hbel
        obtain ⟨T, hT⟩ : ∃ T, L = T + s := ⟨L - s, by omega⟩
        have hT1 : (L : Int) - (s : Int) = (T : Int) := by omega
        have hT2 : L - T = s := by omega
        have hT3 : T ≤ L := by omega
        have hT4 : ¬ c1 = T := by omega
        have hT5 : (T : Int) ≤ (L : Int) := by omega
        have HT := Lib.hid hT
        clear hrow hbel hT hLk
        go_wp2_with fail
        go_loopw [63] (fun i wr => ∃ j : Nat, j ≤ s ∧ i = .int .i64 j ∧ (∀ m, m < j → (bytesM ys).getD (T + m) 0 = 0) ∧ Row wr g1 5 c1 (u8c (bytesM ys)) ∧ Below w.heap.size w wr) (fun i _ => s - (intOf i).toNat)
        case atStart => exact ⟨0, by omega, rfl, fun m h => absurd h (by omega), HR.out, HBEL.out⟩
        case round =>
          clear HR HBEL
          obtain ⟨j, hj, rfl, hzero, hrow, hbel⟩ := hrel
          have HZ := Lib.hid hzero
          have HR := Lib.hid hrow
          have HBEL := Lib.hid hbel
          by_cases hlt : j < s
          · have hlen : T + j < (bytesM ys).length := by rw [bytesM_len, HL.out, hN4, HT.out]; omega
            have hcell := hrow.cell (i := T + j) (u := .int .u8 ((bytesM ys).getD (T + j) 0 : Nat)) (by simp [u8c, List.getD_eq_getElem?_getD, List.getElem?_eq_getElem hlen])
            have HBY := Lib.hid (show ∀ b, (bytesM ys).getD (T + j) 0 = b → b = 0 → ∀ m, m < j + 1 → (bytesM ys).getD (T + m) 0 = 0 from fun b e1 e2 m hm => by
              by_cases h : m = j
              · subst h; rw [e1, e2]
              · exact hzero m (by omega))
            have HNZ := Lib.hid (show (bytesM ys).getD (T + j) 0 ≠ 0 → spareE ys s = 10 from fun hne => by
              unfold spareE
              rw [if_neg]
              intro hall
              rw [List.all_eq_true] at hall
              have hm : (bytesM ys).getD (T + j) 0 ∈ (bytesM ys).drop (4 * ys.length - s) := by
                rw [HL.out, hN4, HT.out, Nat.add_sub_cancel]
                rw [List.getD_eq_getElem?_getD, List.getElem?_eq_getElem hlen, Option.getD_some]
                rw [List.mem_drop_iff_getElem]
                exact ⟨j, by omega, rfl⟩
              have := hall _ hm
              simp at this
              exact hne (by simpa [List.getD_eq_getElem?_getD] using this))
            have hji : (j : Int) < (s : Int) := by omega
            clear hzero hrow hbel
            generalize hb : (bytesM ys).getD (T + j) 0 = b at *
            have HBB2 := Lib.hid hb
            clear hb hlen
            by_cases hb0 : b = 0
            · have hz := HBY.out b rfl hb0
              have HZ2 := Lib.hid hz
              have hbi : ((b : Int) != 0) = false := by simp; omega
              clear HBY HNZ hz
              go_wp2_with fail
              go_roundw
              case rel => exact ⟨j + 1, by omega, by go_num, HZ2.out, HR.out, HBEL.out⟩
              case measure => simp [intOf]; omega
            · have hbi : ((b : Int) != 0) = true := by simp; omega
              have HE := Lib.hid (HNZ.out hb0)
              clear HBY HNZ hb0
              go_wp2_with fail
              go_ret2
              refine ⟨HBEL.out, ?_⟩
              rw [HE.out, if_neg (by decide)]
              rfl
          · obtain rfl : j = s := by omega
            have HE := Lib.hid (show spareE ys j = 0 from by
              unfold spareE
              rw [if_pos]
              rw [List.all_eq_true]
              intro x hx
              rw [HL.out, hN4, HT.out, Nat.add_sub_cancel] at hx
              rw [List.mem_drop_iff_getElem] at hx
              obtain ⟨m, hm, rfl⟩ := hx
              rw [bytesM_len, HL.out, hN4, HT.out] at hm
              have := hzero m (by omega)
              rw [List.getD_eq_getElem?_getD, List.getElem?_eq_getElem (by rw [bytesM_len, HL.out, hN4, HT.out]; omega), Option.getD_some] at this
              simpa using this)
            clear hzero hrow hbel
            go_wp2_with fail
            go_ret2
            refine ⟨HBEL.out, ?_⟩
            rw [if_pos HE.out]
            exact ⟨g1, _, by rw [HL.out, hN4, HT.out, Nat.add_sub_cancel]; rfl, HR.out, hg1⟩
end Go.Proofs.YtblekggklimpeaaDoor

namespace Go.Proofs.YtblekggklimpeaaDoor
open Go.RowKit

def HM.fields (h : HM) (o : Nat) : List Nat := (h.words.drop (o / 2 + 3)).take (h.hd (o / 2)).size
def HM.bytesE (h : HM) (o : Nat) : Nat := if h.isB o = false then 3 else if (h.hd (o / 2)).fmt = 2 then spareE (h.fields o) (h.hd (o / 2)).spare else 21
/-- What Bytes answers. -/
def BytesP (h : HM) (o : Nat) (w : World) (d : Ending) (w' : World) : Prop :=
  Below w.heap.size w w' ∧ if h.bytesE o = 0 then ∃ g c, d = .returned (.tuple #[.slice (some ⟨g, 0, none⟩) (h.hd (o / 2)).len (h.hd (o / 2)).len, .int .i64 0]) ∧ Row w' g 5 c (u8c (bytesM (h.fields o))) ∧ w.heap.size ≤ g
    else d = .returned (.tuple #[.slice none 0 0, .int .i64 (h.bytesE o)])

theorem HM.fields_len {h : HM} {o : Nat} (hd : h.hdAt (o / 2)) : (h.fields o).length = (h.hd (o / 2)).size := by
  have := hd.1
  simp [HM.fields]; omega

theorem below_drew {w w' : World} {B : Nat} (hb : Below B w w') : Below B w w'.drew := ⟨hb.os, hb.tape, hb.output, hb.size, hb.block⟩

/-- The two ways out of UnpackBytes in one. -/
def UnpV (ys : List Nat) (s B : Nat) (v : Value) (E : Nat) (w' : World) : Prop :=
  (spareE ys s = 0 ∧ E = 0 ∧ ∃ g c, v = .slice (some ⟨g, 0, none⟩) (4 * ys.length - s) (4 * ys.length - s) ∧ Row w' g 5 c (u8c (bytesM ys)) ∧ B ≤ g) ∨ (spareE ys s = 10 ∧ E = 10 ∧ v = .slice none 0 0)
theorem UnpB.any {ys : List Nat} {s : Nat} {w w' : World} {d : Ending} (h : UnpB ys s w d w') :
    Below w.heap.size w w' ∧ ∃ v E, d = .returned (.tuple #[v, .int .i64 ((E : Nat) : Int)]) ∧ UnpV ys s w.heap.size v E w' := by
  obtain ⟨h1, h2⟩ := h
  refine ⟨h1, ?_⟩
  by_cases he : spareE ys s = 0
  · rw [if_pos he] at h2
    obtain ⟨g, c, rfl, hr, hg⟩ := h2
    exact ⟨_, 0, rfl, .inl ⟨he, rfl, g, c, rfl, hr, hg⟩⟩
  · rw [if_neg he] at h2
    have he2 : spareE ys s = 10 := by unfold spareE at *; split <;> simp_all
    exact ⟨_, 10, h2, .inr ⟨he2, rfl, rfl⟩⟩
theorem UnpV.mono {ys : List Nat} {s B B' E : Nat} {v : Value} {w' : World} (h : UnpV ys s B v E w') (hB : B' ≤ B) : UnpV ys s B' v E w' := by
  rcases h with ⟨h1, h2, g, c, h3, h4, h5⟩ | h
  · exact .inl ⟨h1, h2, g, c, h3, h4, Nat.le_trans hB h5⟩
  · exact .inr h

section
variable {w : World} {p : HP} {h : HM} (H : HAt w p h) (f : h.Fit) (hh : h.Heads) (hs : Spares w) (o : Nat) (ho : o < 4294967296)
include H f hh hs ho

end
end Go.Proofs.YtblekggklimpeaaDoor

namespace Go.Proofs.YtblekggklimpeaaDoor
open Go.RowKit
attribute [local go_sem] Oper.semAt_some

theorem cnt7I_len : ∀ (k x : Nat), x < 128 ^ (k + 1) → (cnt7 x).length ≤ k + 1
  | 0, x, h => by rw [cnt7_small (by simpa using h)]; simp
  | k + 1, x, h => by
    by_cases hx : x < 128
    · rw [cnt7_small hx]; simp
    · rw [cnt7_big hx]
      have := cnt7I_len k (x / 128) (by rw [Nat.div_lt_iff_lt_mul (by omega)]; rw [Nat.pow_succ] at h; exact h)
      simp; omega
theorem cnt7I_len5 {x : Nat} (h : x < 4294967296) : (cnt7 x).length ≤ 5 := cnt7I_len 4 x (by rw [show (128 : Nat) ^ (4 + 1) = 34359738368 by decide]; omega)
set_option maxRecDepth 100000 in
theorem or128I (m : Nat) : bits .or .u8 ((m : Int) % 256) 128 = ((m % 128 + 128 : Nat) : Int) := by
  have h : ∀ a : Fin 256, (a.val ||| 128) = a.val % 128 + 128 := by decide
  have h1 := u8_or_nat (m % 256) 128 (by omega) (by omega)
  rw [h ⟨m % 256, by omega⟩] at h1
  simp only at h1
  rw [show ((m : Int) % 256) = ((m % 256 : Nat) : Int) by omega, show (128 : Int) = ((128 : Nat) : Int) from rfl, h1]
  congr 1
  omega
/-- A number's bytes in a row of the call's own. -/
def BytesN (bs : List Nat) (w : World) (e : Ending) (w' : World) : Prop :=
  ∃ v', e = .returned v' ∧ w'.ownsRow w.heap.size 5 1 v' bs.length (u8c bs) ∧ Below w.heap.size w w'
/-- Bytes behind a row. -/
def BytesB (B : Nat) (v : Value) (bs cs : List Nat) (w : World) (e : Ending) (w' : World) : Prop :=
  ∃ v', e = .returned v' ∧ w'.ownsRow B 5 1 v' (bs ++ cs).length (u8c (bs ++ cs)) ∧ w.heap.size ≤ w'.heap.size ∧ w'.os = w.os ∧ w'.tape = w.tape ∧ w'.output = w.output ∧ (∀ k, k < w.heap.size → v.ownBlock ≠ some k → w'.heap[k]? = w.heap[k]?) ∧ ∀ k, v'.ownBlock = some k → v.ownBlock = some k ∨ w.heap.size ≤ k
def four4 (x : Nat) : List Nat := [x % 256, x / 256 % 256, x / 65536 % 256, x / 16777216 % 256]
theorem own_sliceI {w : World} {base : Nat} {e : TypeId} {v : Value} {n : Nat} {xs : List Value} (h : w.ownsRow base e 1 v n xs) : ∃ A c, v = .slice A n c ∧ Reads w w.heap.size 1 A n xs := by
  rcases Nat.eq_zero_or_pos n with h0 | h0
  · have hx : xs = [] := List.eq_nil_of_length_eq_zero (by have := h.1; omega)
    subst hx
    subst h0
    rcases h.2 with ⟨h1, _⟩ | ⟨g, cap, cur, rfl, _⟩
    · exact ⟨none, 0, h1, rfl, fun hh => by omega⟩
    · exact ⟨some ⟨g, 0, none⟩, cap, rfl, rfl, fun hh => by omega⟩
  · obtain ⟨g, c, rfl, hr, hx, hb⟩ := Row.of_any h h0
    refine ⟨some ⟨g, 0, none⟩, c, rfl, ?_⟩
    rw [← hx]
    exact hr.reads (h.lt g rfl).2
theorem own_sameI {w w' : World} {base s n : Nat} {e : TypeId} {v : Value} {xs : List Value} (h : w.ownsRow base e s v n xs) (hs : ∀ k, v.ownBlock = some k → w'.heap[k]? = w.heap[k]?) : w'.ownsRow base e s v n xs := by
  refine ⟨h.1, ?_⟩
  rcases h.2 with h1 | ⟨g, cap, cur, h1, h2, h3, h4⟩
  · exact .inl h1
  · exact .inr ⟨g, cap, cur, h1, h2, (hs g (by rw [h1]; rfl)).trans h3, h4⟩
/-- The bytes so far: a row of the call's own, of blocks from B on. -/
structure RB (w2 wr : World) (B : Nat) (v : Value) (bs : List Nat) : Prop where
  own : wr.ownsRow B 5 1 v bs.length (u8c bs)
  base : Below w2.heap.size w2 wr
  hB : w2.heap.size ≤ B
  top : B ≤ wr.heap.size
theorem RB.below {w2 w w' : World} {B : Nat} {v : Value} {bs : List Nat} (C : RB w2 w B v bs) (hb : Below w.heap.size w w') : RB w2 w' B v bs :=
  ⟨own_sameI C.own (fun k hk => hb.block k (C.own.lt k hk).2), below_top C.base hb, C.hB, Nat.le_trans C.top hb.size⟩
theorem u8c_appI (a b : List Nat) : u8c (a ++ b) = u8c a ++ u8c b := by simp [u8c]
theorem RB.app {w2 w w' : World} {B m : Nat} {v v' : Value} {bs cs : List Nat} (C : RB w2 w B v bs) (hm : cs.length = m) (ho : w'.ownsRow B 5 1 v' (bs.length + m) (u8c bs ++ u8c cs)) (hg : w.grownBy w' v.ownBlock) : RB w2 w' B v' (bs ++ cs) :=
  ⟨by rw [List.length_append, u8c_appI, hm]; exact ho, C.base.grown hg (Nat.le_trans C.hB C.top) (fun k hk => Nat.le_trans C.hB (C.own.lt k hk).1), C.hB, Nat.le_trans C.top hg.size⟩
theorem RB.bytes {w2 w w' : World} {B : Nat} {v : Value} {bs cs : List Nat} {e : Ending} (C : RB w2 w B v bs) (h : BytesB B v bs cs w e w') : ∃ v', e = .returned v' ∧ RB w2 w' B v' (bs ++ cs) := by
  obtain ⟨v', rfl, h1, h2, h3, h4, h5, h6, -⟩ := h
  exact ⟨v', rfl, h1, ⟨h3.trans C.base.os, h4.trans C.base.tape, h5.trans C.base.output, Nat.le_trans C.base.size h2, fun k hk => (h6 k (Nat.lt_of_lt_of_le hk C.base.size) (fun e => by have := (C.own.lt k e).1; have := C.hB; omega)).trans (C.base.block k hk)⟩, C.hB, Nat.le_trans C.top h2⟩
end Go.Proofs.YtblekggklimpeaaDoor

namespace Go.Proofs.YtblekggklimpeaaDoor
open Go.RowKit
attribute [local go_sem] Oper.semAt_some
theorem RB.new {w2 w w' : World} {v : Value} {bs : List Nat} (ho : w'.ownsRow w.heap.size 5 1 v bs.length (u8c bs)) (hb : Below w.heap.size w w') (h0 : Below w2.heap.size w2 w) : RB w2 w' w.heap.size v bs :=
  ⟨ho, below_top h0 hb, h0.size, hb.size⟩
theorem RB.reads {w2 w : World} {B : Nat} {v : Value} {bs : List Nat} (C : RB w2 w B v bs) : ∃ A c, v = .slice A bs.length c ∧ Reads w w.heap.size 1 A bs.length (u8c bs) := own_sliceI C.own
theorem RB.alloc {w2 w : World} {B : Nat} {v : Value} {bs : List Nat} (C : RB w2 w B v bs) (o : Obj) : RB w2 (w.alloc o) B v bs := C.below ((Below.refl _ _).alloc (Nat.le_refl _) o)
theorem RB.nil {w2 w : World} {B : Nat} (hb : Below w2.heap.size w2 w) (hB : w2.heap.size ≤ B) (ht : B ≤ w.heap.size) : RB w2 w B (.slice none 0 0) [] :=
  ⟨⟨rfl, .inl ⟨rfl, rfl⟩⟩, hb, hB, ht⟩
theorem u8c_len (bs : List Nat) : (u8c bs).length = bs.length := by simp [u8c]
/-- A slice written out of given bytes. -/
theorem reads_new (w : World) (bs : List Nat) (n : Nat) (hn : bs.length = n) : Reads (w.alloc (.cells (u8c bs).toArray 5)) (w.heap.size + 1) 1 (some ⟨w.heap.size, 0, none⟩) n (u8c bs) := by
  subst hn
  refine ⟨by rw [u8c_len, Nat.mul_one], fun _ => ⟨_, rfl, by simp, fun j u hu => ?_⟩⟩
  rw [WideShapes.add_plain, Nat.zero_add]
  refine ((Blk.new w _ _).cell j).trans ?_
  rw [← hu]
  simp
theorem own_new8 (w : World) (bs : List Nat) (n : Nat) (hn : bs.length = n) (hm : n ≤ maxLen) : (w.alloc (.cells (u8c bs).toArray 5)).ownsRow w.heap.size 5 1 (.slice (some ⟨w.heap.size, 0, none⟩) n n) n (u8c bs) := by
  subst hn
  exact ⟨by simp [u8c], .inr ⟨w.heap.size, bs.length, _, rfl, Nat.le_refl _, heap_alloc_new w _, Nat.le_refl _, hm, by simp [u8c], by rw [List.take_of_length_le (by simp [u8c])]⟩⟩

/-- A row of other entries is no row of bytes. -/
theorem RB.other {w2 w w' : World} {B g c : Nat} {v : Value} {bs : List Nat} {e : TypeId} {xs : List Value} (C : RB w2 w B v bs) (hr : Row w g e c xs) (hne : e ≠ 5) (hg : w.grownBy w' v.ownBlock) : Row w' g e c xs := by
  refine hr.same (hg.block g hr.lt fun hk => ?_)
  have hk' : v.ownBlock = some g := by first | exact hk | exact hk.symm
  rcases C.own.2 with ⟨h1, _⟩ | ⟨g', cap, cur, h1, h2, h3, h4⟩
  · rw [h1] at hk'; cases hk'
  · rw [h1] at hk'
    have e1 : g' = g := by injection hk'
    obtain ⟨cur', hb, _⟩ := hr
    rw [e1] at h3
    unfold Blk at hb
    rw [h3] at hb
    injection hb with hb
    injection hb with _ hb
    exact hne (by first | exact hb.symm | exact hb)
theorem wpList_app_RB {ops : Array Oper} {rest : List Oper} {o : Oper} {a : Act} {Q : Exit → Act → World → Prop} {w w2 : World} {B m c : Nat} {v : Value} {bs cs : List Nat} {A : Option Addr} (s x : Operand)
    (C : RB w2 w B v bs) (hr : Reads w w.heap.size 1 A m (u8c cs)) (hs : a.eval s = v) (hx : a.eval x = .slice A m c) (hn : bs.length + m ≤ 100000000000000)
    (ho : o.op = .call { callee := .builtin .append, args := #[s, x], argTypes := #[150, 150] }) (hgd : o.guard = none)
    (h : ∀ v' w', RB w2 w' B v' (bs ++ cs) → w.grownBy w' v.ownBlock → wpList Tryd.prog ops Q rest (a.put o.dst v') w') : wpList Tryd.prog ops Q (o :: rest) a w := by
  obtain ⟨i0, hi0, hz0, hz1, hz2⟩ := info_parts info_u8
  refine wpList_append_any _ hgd s x _ ho B 5 i0 _ 1 1 Tryd.underlying150 hi0 hz0 hz1 hz2 rfl (by omega) v bs.length (u8c bs) hs C.own w.heap.size A m c (u8c cs) hx hr (one_u8c _) (by simp only [maxLen]; omega) (by omega) C.top ?_
  intro v4 w4 hown4 hgrow4 hat4
  exact h _ _ (C.app (by have := hr.1; rw [u8c_len, Nat.mul_one] at this; exact this) hown4 hgrow4) hgrow4
/-- The same, in a region that draws its order. -/
theorem step_app_RB {ops : Array Oper} {o : Oper} {a : Act} {K : Act → World → Prop} {Q : Exit → Act → World → Prop} {E : Prop} {w w2 : World} {B m c : Nat} {v : Value} {bs cs : List Nat} {A : Option Addr} (s x : Operand)
    (C : RB w2 w B v bs) (hr : Reads w w.heap.size 1 A m (u8c cs)) (hs : a.eval s = v) (hx : a.eval x = .slice A m c) (hn : bs.length + m ≤ 100000000000000)
    (ho : o.op = .call { callee := .builtin .append, args := #[s, x], argTypes := #[150, 150] }) (hgd : o.guard = none)
    (h : ∀ v' w', RB w2 w' B v' (bs ++ cs) → w.grownBy w' v.ownBlock → K (a.put o.dst v') w') :
    if Region.wanted o (yielded ops a.tmps) = true then Oper.wp Tryd.prog o a w K Q else E := by
  obtain ⟨i0, hi0, hz0, hz1, hz2⟩ := info_parts info_u8
  refine step_append_any _ hgd s x _ ho B 5 i0 _ 1 1 Tryd.underlying150 hi0 hz0 hz1 hz2 rfl (by omega) v bs.length (u8c bs) hs C.own w.heap.size A m c (u8c cs) hx hr (one_u8c _) (by simp only [maxLen]; omega) (by omega) C.top ?_
  intro v4 w4 hown4 hgrow4 hat4
  exact h _ _ (C.app (by have := hr.1; rw [u8c_len, Nat.mul_one] at this; exact this) hown4 hgrow4) hgrow4
/-- append onto a full row that need not be the call's own: a new row. -/
theorem wpList_app_full {ops : Array Oper} {rest : List Oper} {o : Oper} {a : Act} {Q : Exit → Act → World → Prop} {w w2 : World} {n m c : Nat} {b : Addr} {bs cs : List Nat} {A : Option Addr} (s x : Operand)
    (hb : Below w2.heap.size w2 w) (hr0 : Reads w w.heap.size 1 (some b) n (u8c bs)) (hr : Reads w w.heap.size 1 A m (u8c cs)) (hs : a.eval s = .slice (some b) n n) (hx : a.eval x = .slice A m c) (hm : 0 < m) (hn : n + m ≤ 100000000000000)
    (ho : o.op = .call { callee := .builtin .append, args := #[s, x], argTypes := #[150, 150] }) (hgd : o.guard = none)
    (h : ∀ v' w', RB w2 w' w.heap.size v' (bs ++ cs) → wpList Tryd.prog ops Q rest (a.put o.dst v') w') : wpList Tryd.prog ops Q (o :: rest) a w := by
  obtain ⟨i0, hi0, hz0, hz1, hz2⟩ := info_parts info_u8
  obtain ⟨ad, rfl, hlt, hcells⟩ := hr.2 hm
  have hbs : bs.length = n := by have := hr0.1; rw [u8c_len, Nat.mul_one] at this; exact this
  have hcs : cs.length = m := by have := hr.1; rw [u8c_len, Nat.mul_one] at this; exact this
  have h0 : ∀ j u, (u8c bs)[j]? = some u → w.cell? (b.add j) = some u := by
    intro j u hu
    rcases Nat.eq_zero_or_pos n with hz | hp
    · have : bs = [] := List.eq_nil_of_length_eq_zero (by omega)
      rw [this] at hu; simp [u8c] at hu
    · obtain ⟨ad', hh, _, hc⟩ := hr0.2 hp
      have e1 := Option.some.inj hh
      subst e1
      exact hc j u hu
  have hrun := run_append_grow (P := Tryd.prog) w 150 o.type 5 i0 (.int .u8 0) Tryd.underlying150 hi0 hz0 b n n (u8c bs) (by rw [u8c_len, hbs, hz1, Nat.mul_one]) h0 ad m c (u8c cs) (by rw [u8c_len, hcs, hz1, Nat.mul_one]) hcells (by omega) (by omega) (growslice_fits (by omega) (by rw [hz2]; omega))
  refine wpList_plain hgd fun _ hK => ?_
  unfold Oper.wp execOp
  simp only [ho, resolve, invoke, builtin, Sem.run_bind, Sem.run_pure, Result.andThen_ok, List.map_toArray, List.map_cons, List.map_nil, hs, hx, hrun]
  refine hK _ _ (h _ _ ?_)
  have hge := grownCap_ge w (n + m) n 5
  have hcm : grownCap w (n + m) n 5 ≤ maxLen := grownCap_le_maxLen w (n + m) n 5 (by simp only [maxLen]; omega)
  refine ⟨⟨by simp [u8c], .inr ⟨w.heap.size, _, _, by rw [List.length_append, hbs, hcs], Nat.le_refl _, heap_alloc_new w.drew _, by rw [List.length_append, hbs, hcs]; exact hge, hcm, ?_, ?_⟩⟩, ?_, hb.size, by simp⟩
  · simp only [Array.size_append, List.size_toArray, size_zeroCells, u8c_len, hbs, hcs, show (Value.int .u8 0).cells.size = 1 from rfl]
    omega
  · simp only [Array.toList_append, List.append_assoc]
    rw [← List.append_assoc, Nat.mul_one, ← u8c_appI, ← u8c_len (bs ++ cs)]
    exact List.take_left
  · exact (show Below w2.heap.size w2 w.drew from ⟨hb.os, hb.tape, hb.output, hb.size, hb.block⟩).alloc hb.size _
theorem reads_new1 (w : World) (X : Obj) (bs : List Nat) (n : Nat) (hn : bs.length = n) : Reads ((w.alloc X).alloc (.cells (u8c bs).toArray 5)) ((w.alloc X).alloc (.cells (u8c bs).toArray 5)).heap.size 1 (some ⟨w.heap.size + 1, 0, none⟩) n (u8c bs) := by
  have h := (reads_new (w.alloc X) bs n hn).more (B' := ((w.alloc X).alloc (.cells (u8c bs).toArray 5)).heap.size) (by simp)
  simpa using h
/-- A constant string's bytes (their row bears the run-time's mark), a block behind them. -/
theorem reads_marked (w : World) (Y : Obj) (m : Nat × Nat) (bs : List Nat) (n : Nat) (hn : bs.length = n) : Reads ((w.alloc (.cells (u8c bs).toArray 5 m)).alloc Y) ((w.alloc (.cells (u8c bs).toArray 5 m)).alloc Y).heap.size 1 (some ⟨w.heap.size, 0, none⟩) n (u8c bs) := by
  subst hn
  refine ⟨by rw [u8c_len, Nat.mul_one], fun _ => ⟨_, rfl, by simp; omega, fun j u hu => ?_⟩⟩
  rw [WideShapes.add_plain, Nat.zero_add]
  rw [World.cell?_alloc_lt _ _ _ (by simp)]
  refine (cell_of_row _ w.heap.size j (u8c bs).toArray 5 m (heap_alloc_new w _)).trans ?_
  rw [← hu]
  simp
end Go.Proofs.YtblekggklimpeaaDoor
