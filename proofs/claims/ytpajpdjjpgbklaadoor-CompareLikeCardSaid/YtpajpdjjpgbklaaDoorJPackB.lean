/- PackBytes of the program. -/
/- UnpackBytes of the program. -/
import Derived.Test.YtpajpdjjpgbklaaDoorJAlloc
import Derived.Test.YtpajpdjjpgbklaaDoorJBase
import Derived.Test.YtpajpdjjpgbklaaDoorJMem
import Derived.Deep.LoopGhost
set_option linter.unusedVariables false
set_option linter.unusedSectionVars false
namespace Go.Proofs.YtpajpdjjpgbklaaDoor
open Go.RowKit

theorem run_make_rowN {P : Program} (t e : TypeId) (i : TypeInfo) (z : Value) (ht : P.underlying t = some (.slice e)) (hi : P.info? e = some i) (hz : i.zero = some z)
    (kl kc : IntKind) (n c : Nat) (hnc : n ≤ c) (hbytes : i.bytes * c ≤ 281474976710656) (h63 : c ≤ 9223372036854775807) (w : World) :
    (Instr.makeSlice t (.int kl (n : Int)) (.int kc (c : Int))).run P w = .ok (.slice (some ⟨w.heap.size, 0, none⟩) n c) (w.alloc (.cells (madeCells z.cells (c * i.size)) e)) := by
  have hb : (i.bytes : Int) * (c : Int) ≤ 281474976710656 := by
    have h : ((i.bytes * c : Nat) : Int) ≤ 281474976710656 := by omega
    rwa [Int.natCast_mul] at h
  have hr := run_make (P := P) w t e i z ht hi hz kl kc n c (by omega) (by omega) hb (by omega)
  simp only [Int.toNat_natCast] at hr
  exact hr

def zcells (z : Value) (n : Nat) : Array Value := Array.replicate n z
theorem make_u32 (F : Nat) (hF : F ≤ 1048576) (w : World) :
    (Instr.makeSlice 22 (.int .i64 (F : Int)) (.int .i64 (F : Int))).run Tryd.prog w = .ok (.slice (some ⟨w.heap.size, 0, none⟩) F F) (w.alloc (.cells (zcells (.int .u32 0) F) 24)) := by
  obtain ⟨i0, hi0, hz0, hz1, hz2⟩ := info_parts info_u32
  have := run_make_rowN (P := Tryd.prog) 22 24 i0 _ Tryd.underlying22 hi0 hz0 .i64 .i64 F F (Nat.le_refl _) (by rw [hz2]; omega) (by omega) w
  have e : madeCells (Value.int .u32 0).cells (F * 1) = zcells (.int .u32 0) F := by
    apply Array.ext
    · simp [madeCells, zcells, Value.cells]
    · intro i h1 h2
      simp [madeCells, zcells, Value.cells, Nat.mod_one]
  rw [this, hz1, e]
theorem zcells_row (w : World) (e : TypeId) (F x : Nat) (hF : F ≤ maxLen) : Row (w.alloc (.cells (zcells (.int .u32 x) F) e)) w.heap.size e F (u32s (List.replicate F x)) :=
  ⟨zcells (.int .u32 x) F, Blk.new w _ _, by simp [u32s], hF, by simp [zcells], by simp [zcells, u32s]⟩

/-- What PackBytes answers: a new row of words, the spare bytes. -/
def PackedB (bs : List Nat) (w : World) (d : Ending) (w' : World) : Prop :=
  ∃ g, d = .returned (.tuple #[.slice (some ⟨g, 0, none⟩) (packM bs).length (packM bs).length, .int .i64 (4 * ((bs.length + 3) / 4) - bs.length : Nat), .int .i64 0]) ∧
    Row w' g 24 (packM bs).length (u32s (packM bs)) ∧ w.heap.size ≤ g ∧ Below w.heap.size w w'

theorem u8c_at {zs : List Nat} {k : Nat} {u : Value} (h : (u8c zs)[k]? = some u) : ∃ x, zs[k]? = some x ∧ u = .int .u8 (x : Int) := by
  unfold u8c at h
  rw [List.getElem?_map] at h
  cases hz : zs[k]? with
  | none => rw [hz] at h; cases h
  | some x => rw [hz] at h; exact ⟨x, rfl, by injection h with h; exact h.symm⟩

theorem packBytes_long {w : World} (A : Option Addr) (n c : Nat) (hn : 262140 < n) (hm : n ≤ 9223372036854775807) :
    Calls Tryd.prog 108 #[.slice A n c] w fun e w' => e = .returned (.tuple #[.slice none 0 0, .int .i64 0, .int .i64 2]) ∧ w = w' := by
  have HL := Lib.hid (olength_any n hm w)
  rw [if_pos hn] at HL
  go_enter Tryd.func108, Tryd.ntmps108
  go_wp2_with fail
  refine HL.out.mono ?_
  rintro e w1 ⟨rfl, rfl⟩
  go_wp2_with fail
  go_ret3
  exact ⟨by simp, rfl⟩

set_option maxHeartbeats 4000000 in
theorem packBytes_any {w : World} (A : Option Addr) (n c B : Nat) (bs : List Nat) (hn : n ≤ 262140) (hr : Reads w B 1 A n (u8c bs)) (hB : B ≤ w.heap.size) (hb : ∀ x ∈ bs, x < 256) :
    Calls Tryd.prog 108 #[.slice A n c] w (PackedB bs w) := by
  have hl : bs.length = n := by have := hr.1; simpa [u8c] using this
  subst hl
  have HL := Lib.hid (olength_any bs.length (by omega) w)
  rw [if_neg (by omega)] at HL
  have HRD := Lib.hid hr
  have HBB := Lib.hid hb
  have hmk := make_u32 ((bs.length + 3) / 4) (by omega)
  have HPL := Lib.hid (packM_len bs)
  have hpk : packM bs = packK ((bs.length + 3) / 4) bs bs.length := rfl
  have HPK := Lib.hid hpk
  clear hr hb hpk
  have hF : bs.length ≤ 4 * ((bs.length + 3) / 4) := by omega
  have hF2 : (bs.length + 3) / 4 ≤ 65535 := by omega
  generalize hFe : (bs.length + 3) / 4 = F at *
  have HFE := Lib.hid hFe
  clear hFe
  generalize hN : bs.length = N at *
  have HN := Lib.hid hN
  clear hN
  go_enter Tryd.func108, Tryd.ntmps108
  go_wp2_with fail
  refine HL.out.mono ?_
  rintro e w1 ⟨rfl, rfl⟩
  go_wp2_with fail
  have HS := Lib.hid (show Row (w.alloc (.cells (zcells (.int .u32 0) F) 24)) w.heap.size 24 F (u32s (packK F bs 0)) from by rw [packK_zero]; exact zcells_row w _ F 0 (by simp only [maxLen]; omega))
  have HB0 := Lib.hid (show Below w.heap.size w (w.alloc (.cells (zcells (.int .u32 0) F) 24)) from (Below.refl _ _).alloc (Nat.le_refl _) _)
  clear hmk
  go_loopw [24] (fun i wr => ∃ k : Nat, k ≤ N ∧ i = .int .i64 k ∧ Row wr w.heap.size 24 F (u32s (packK F bs k)) ∧ Below w.heap.size w wr) (fun i _ => N - (intOf i).toNat)
  case atStart => exact ⟨0, by omega, rfl, HS.out, HB0.out⟩
  case round =>
    clear HS HB0
    obtain ⟨k, hk, rfl, hrow, hbel⟩ := hrel
    by_cases hlt : k < N
    · obtain ⟨ad, u0, hA, _, hx, hcell0⟩ := (HRD.out.below (hbel.mono hB)).at_ hlt
      obtain ⟨x, hxe, rfl⟩ := u8c_at hx
      have hx8 := HBB.out x (List.mem_of_getElem? hxe)
      have hkF : k / 4 < F := by omega
      have hcw := hrow.cell (i := k / 4) (u := .int .u32 ((wordAt (bs.take k) (k / 4) : Nat) : Int)) (by simp [u32s, packK_get F bs k _ hkF])
      have hcf := hrow.frozen (k / 4)
      have hold := wordAt_lt (bs.take k) (fun y hy => HBB.out y (List.mem_of_mem_take hy)) (k / 4)
      have hstep := packK_step F bs HBB.out k hkF
      have hxg : bs.getD k 0 = x := by simp [List.getD, hxe]
      rw [hxg] at hstep
      have hset := hrow.set (k / 4) (.int .u32 ((wordAt (bs.take k) (k / 4) ||| (x * 2 ^ (8 * (k % 4))) : Nat) : Int))
      rw [show (u32s (packK F bs k)).set (k / 4) (.int .u32 ((wordAt (bs.take k) (k / 4) ||| (x * 2 ^ (8 * (k % 4))) : Nat) : Int)) = u32s (packK F bs (k + 1)) by rw [← hstep]; simp [u32s]] at hset
      have hsh : x * 2 ^ (8 * (k % 4)) < 4294967296 := by
        rcases (by omega : k % 4 = 0 ∨ k % 4 = 1 ∨ k % 4 = 2 ∨ k % 4 = 3) with r | r | r | r <;> rw [r] <;> omega
      have hor := u32_or_nat (wordAt (bs.take k) (k / 4)) (x * 2 ^ (8 * (k % 4))) hold hsh
      have HSET := Lib.hid hset
      have HOR := Lib.hid hor
      clear hset hor hstep hxg hxe hx hrow hsh
      generalize wordAt (bs.take k) (k / 4) = old at *
      generalize hnw : (old ||| x * 2 ^ (8 * (k % 4))) = nw at *
      clear hnw
      obtain ⟨j, hj⟩ : ∃ j, k / 4 = j := ⟨_, rfl⟩
      have hdiv : (k : Int) / 4 = (j : Int) := by omega
      rw [hj] at hcw hcf HSET hkF
      clear hj
      have HBEL := Lib.hid hbel
      clear hbel
      have hjF : (j : Int) < (F : Int) := by omega
      have hj0 : (0 : Int) ≤ (j : Int) := by omega
      subst hA
      rcases (by omega : k % 4 = 0 ∨ k % 4 = 1 ∨ k % 4 = 2 ∨ k % 4 = 3) with hr | hr | hr | hr
      all_goals
        have hor := HOR.out
        rw [hr] at hor
        have hmod : (k : Int) % 4 = ((k % 4 : Nat) : Int) := by omega
        rw [hr] at hmod
        simp at hor
        clear hr
        go_wp2_with fail
        go_region
      all_goals
        go_wp2_with fail
        go_roundw
        case rel => exact ⟨k + 1, by omega, by go_num, HSET.out, (HBEL.out.setCell (by simp) _).drew⟩
        case measure => simp [intOf]; omega
    · obtain rfl : k = N := by omega
      have HR := Lib.hid hrow
      have HBEL := Lib.hid hbel
      clear hrow hbel
      go_wp2_with fail
      go_ret3
      refine ⟨w.heap.size, ?_, ?_, Nat.le_refl _, HBEL.out⟩
      · rw [HPL.out, HN.out, HFE.out]
        simp
      · rw [HPL.out, HPK.out]
        exact HR.out
end Go.Proofs.YtpajpdjjpgbklaaDoor

namespace Go.Proofs.YtpajpdjjpgbklaaDoor
open Go.RowKit

def bytes4 (x : Nat) : List Nat := [x % 256, x / 256 % 256, x / 65536 % 256, x / 16777216 % 256]
/-- The bytes of words. -/
def bytesM (ys : List Nat) : List Nat := ys.flatMap bytes4
theorem bytesM_len (ys : List Nat) : (bytesM ys).length = 4 * ys.length := by
  induction ys with
  | nil => rfl
  | cons x ys ih =>
    have : bytesM (x :: ys) = bytes4 x ++ bytesM ys := rfl
    rw [this, List.length_append, ih]
    simp [bytes4]; omega
theorem bytesM_take (ys : List Nat) (k x : Nat) (h : ys[k]? = some x) : bytesM (ys.take (k + 1)) = bytesM (ys.take k) ++ bytes4 x := by
  rw [List.take_add_one, h]
  simp [bytesM, List.flatMap_append]
theorem bytesM_lt (ys : List Nat) : ∀ b ∈ bytesM ys, b < 256 := by
  intro b hb
  unfold bytesM at hb
  rw [List.mem_flatMap] at hb
  obtain ⟨x, _, hb⟩ := hb
  simp [bytes4] at hb
  omega
/-- The error's number: bytes that are spare must be 0. -/
def spareE (ys : List Nat) (s : Nat) : Nat := if ((bytesM ys).drop (4 * ys.length - s)).all (· == 0) then 0 else 10

/-- What UnpackBytes answers. -/
def UnpB (ys : List Nat) (s : Nat) (w : World) (d : Ending) (w' : World) : Prop :=
  Below w.heap.size w w' ∧ if spareE ys s = 0 then ∃ g c, d = .returned (.tuple #[.slice (some ⟨g, 0, none⟩) (4 * ys.length - s) (4 * ys.length - s), .int .i64 0]) ∧ Row w' g 5 c (u8c (bytesM ys)) ∧ w.heap.size ≤ g
    else d = .returned (.tuple #[.slice none 0 0, .int .i64 10])

theorem u32s_at {zs : List Nat} {k : Nat} {u : Value} (h : (u32s zs)[k]? = some u) : ∃ x, zs[k]? = some x ∧ u = .int .u32 (x : Int) := by
  unfold u32s at h
  rw [List.getElem?_map] at h
  cases hz : zs[k]? with
  | none => rw [hz] at h; cases h
  | some x => rw [hz] at h; exact ⟨x, rfl, by injection h with h; exact h.symm⟩
theorem one_u8c (l : List Nat) : ∀ u ∈ u8c l, u.oneCell' = true := by
  intro u hu; obtain ⟨x, _, rfl⟩ := List.mem_map.1 hu; rfl
theorem make_u8 (F : Nat) (hF : F ≤ 4194304) (w : World) :
    (Instr.makeSlice 46 (.int .i64 0) (.int .i64 (F : Int))).run Tryd.prog w = .ok (.slice (some ⟨w.heap.size, 0, none⟩) 0 F) (w.alloc (.cells (zcells (.int .u8 0) F) 5)) := by
  obtain ⟨i0, hi0, hz0, hz1, hz2⟩ := info_parts info_u8
  have := run_make_rowN (P := Tryd.prog) 46 5 i0 _ Tryd.underlying46 hi0 hz0 .i64 .i64 0 F (by omega) (by rw [hz2]; omega) (by omega) w
  have e : madeCells (Value.int .u8 0).cells (F * 1) = zcells (.int .u8 0) F := by
    apply Array.ext
    · simp [madeCells, zcells, Value.cells]
    · intro i h1 h2
      simp [madeCells, zcells, Value.cells, Nat.mod_one]
  have e0 : ((0 : Nat) : Int) = 0 := rfl
  rw [e0] at this
  rw [this, hz1, e]
theorem zcells_row0 (w : World) (e : TypeId) (F : Nat) (z : Value) (hF : F ≤ maxLen) : Row (w.alloc (.cells (zcells z F) e)) w.heap.size e F [] :=
  ⟨zcells z F, Blk.new w _ _, by simp, hF, by simp [zcells], by simp⟩

theorem Row.ownsB {w : World} {g c B L : Nat} {e : TypeId} {xs : List Value} (h : Row w g e c xs) (hB : B ≤ g) (hl : xs.length = L) : w.ownsRow B e 1 (.slice (some ⟨g, 0, none⟩) L c) L xs := by
  subst hl
  obtain ⟨cur, hb, hl, hm, hc, hx⟩ := h
  exact ⟨by simp, .inr ⟨g, c, cur, rfl, hB, hb, hl, hm, by simpa using hc, by simpa using hx⟩⟩

theorem owns_alloc {w : World} {B e n : Nat} {v : Value} {xs : List Value} (h : w.ownsRow B e 1 v n xs) (o : Obj) : (w.alloc o).ownsRow B e 1 v n xs := by
  obtain ⟨h1, h2⟩ := h
  refine ⟨h1, ?_⟩
  rcases h2 with h2 | ⟨g, c, cur, hv, hB, hb, r⟩
  · exact .inl h2
  · exact .inr ⟨g, c, cur, hv, hB, Blk.alloc hb o, r⟩
theorem reads_new4 (w : World) (e : TypeId) (a b c d : Value) : Reads (w.alloc (.cells #[a, b, c, d] e)) (w.heap.size + 1) 1 (some ⟨w.heap.size, 0, none⟩) 4 [a, b, c, d] :=
  ⟨rfl, fun _ => ⟨_, rfl, by simp, fun j u hj => by
    rw [WideShapes.add_plain, Nat.zero_add, (Blk.new w _ _).cell]
    simpa using hj⟩⟩
theorem one4 (a b c d : Int) : ∀ u ∈ ([.int .u8 a, .int .u8 b, .int .u8 c, .int .u8 d] : List Value), u.oneCell' = true := by
  intro u hu
  simp at hu
  rcases hu with rfl | rfl | rfl | rfl <;> rfl
theorem bytes4_eq {w : World} {B e n : Nat} {v : Value} {ys : List Nat} {k x : Nat} {a b c d : Int} (h : w.ownsRow B e 1 v n (u8c (bytesM (ys.take k)) ++ [.int .u8 a, .int .u8 b, .int .u8 c, .int .u8 d]))
    (hk : bytesM (ys.take (k + 1)) = bytesM (ys.take k) ++ bytes4 x) (ha : a = (x : Int) % 256) (hb : b = (x : Int) / 256 % 256) (hc : c = (x : Int) / 65536 % 256) (hd : d = (x : Int) / 16777216 % 256) :
    w.ownsRow B e 1 v n (u8c (bytesM (ys.take (k + 1)))) := by
  subst ha hb hc hd
  rw [hk]
  simpa [u8c, bytes4] using h

theorem below_grown {w w1 w2 : World} {B : Nat} {b : Option Nat} (hBs : B ≤ w.heap.size) (h : Below B w w1) (hg : w1.grownBy w2 b) (hb : ∀ g, b = some g → B ≤ g) : Below B w w2 :=
  ⟨hg.os.trans h.os, hg.tape.trans h.tape, hg.output.trans h.output, Nat.le_trans h.size hg.size, fun k hk => (hg.block k (Nat.lt_of_lt_of_le hk (Nat.le_trans hBs h.size)) (fun e => by have := hb k e.symm; omega)).trans (h.block k hk)⟩
theorem spareE_zero (ys : List Nat) : spareE ys 0 = 0 := by
  unfold spareE
  rw [Nat.sub_zero, ← bytesM_len, List.drop_length]
  rfl

set_option maxRecDepth 100000 in
set_option maxHeartbeats 4000000 in
theorem unpackBytes_any {w : World} (A : Option Addr) (n c B s : Nat) (ys : List Nat) (hn : n ≤ 65535) (hr : Reads w B 1 A n (u32s ys)) (hB : B ≤ w.heap.size) (hb : ∀ x ∈ ys, x < 4294967296) (hs : s ≤ 3) (hs0 : 0 < s → 0 < n) :
    Calls Tryd.prog 52 #[.slice A n c, .int .i64 s] w (UnpB ys s w) := by
  have hl : ys.length = n := by have := hr.1; simpa [u32s] using this
  have HRD := Lib.hid hr
  have HBB := Lib.hid hb
  have HL := Lib.hid hl
  have hmk := make_u8 (4 * n) (by omega) w
  have hS := Lib.hid (show Row (w.alloc (.cells (zcells (.int .u8 0) (4 * n)) 5)) w.heap.size 5 (4 * n) (u8c (bytesM (ys.take 0))) from by simpa [bytesM, u8c] using zcells_row0 w 5 (4 * n) (.int .u8 0) (by simp only [maxLen]; omega))
  have HB0 := Lib.hid (show Below w.heap.size w (w.alloc (.cells (zcells (.int .u8 0) (4 * n)) 5)) from (Below.refl _ _).alloc (Nat.le_refl _) _)
  clear hr hb hl
  obtain ⟨N4, hN4⟩ : ∃ N4, 4 * n = N4 := ⟨_, rfl⟩
  have hN4i : 4 * (n : Int) = (N4 : Int) := by omega
  rw [hN4] at hmk hS HB0
  have HG := Lib.hid (show (s = 0 ∨ 0 < s ∧ 0 < n) by omega)
  have hnz : (decide (0 < (s : Int)) && ((n : Int) == 0)) = false := by
    by_cases h : 0 < s
    · have := hs0 h
      simp; omega
    · simp; omega
  have hpos : ∀ v : Bool, (if decide (0 < (s : Int)) = true then v else false) = (decide (0 < (s : Int)) && v) := fun v => by cases decide (0 < (s : Int)) <;> rfl
  clear hs0
  obtain ⟨i0, hi0, hz0, hz1, hz2⟩ := info_parts info_u8
  rcases (by have := HG.out; omega : s = 0 ∨ 0 < s ∧ ¬ n = 0) with h0 | ⟨h0, h1⟩
  · subst h0
    go_enter Tryd.func52, Tryd.ntmps52
    go_wp2_with fail
    clear hmk
    go_loopw [6, 36] (fun b i wr => ∃ (k g1 c1 L : Nat), k ≤ n ∧ i = .int .i64 k ∧ b = .slice (some ⟨g1, 0, none⟩) L c1 ∧ L = 4 * k ∧ Row wr g1 5 c1 (u8c (bytesM (ys.take k))) ∧ w.heap.size ≤ g1 ∧ Below w.heap.size w wr) (fun _ i _ => n - (intOf i).toNat)
    case atStart => exact ⟨0, _, _, _, by omega, rfl, rfl, rfl, hS.out, Nat.le_refl _, HB0.out⟩
    case round =>
      clear hS HB0
      obtain ⟨k, g1, c1, L, hk, rfl, rfl, hLk, hrow, hg1, hbel⟩ := hrel
      by_cases hlt : k < n
      · obtain ⟨ad, u0, hA, _, hx, hcell0⟩ := (HRD.out.below (hbel.mono hB)).at_ hlt
        obtain ⟨x, hxe, rfl⟩ := u32s_at hx
        have hx32 := HBB.out x (List.mem_of_getElem? hxe)
        have HTK := Lib.hid (bytesM_take ys k x hxe)
        have HOW := Lib.hid (show wr.ownsRow w.heap.size 5 1 (.slice (some ⟨g1, 0, none⟩) L c1) L (u8c (bytesM (ys.take k))) from by
          have hl : (u8c (bytesM (ys.take k))).length = L := by simp [u8c, bytesM_len, HL.out]; omega
          exact hrow.ownsB hg1 hl)
        subst hA
        have HBEL := Lib.hid hbel
        have HLK := Lib.hid hLk
        clear hrow hbel hx hxe hLk
        go_wp2_with (at_builtin; refine wpList_append_any _ rfl (.tmp 40) (.tmp 52) _ rfl w.heap.size 5 i0 _ 1 1 Tryd.underlying46 hi0 hz0 hz1 hz2 rfl (by omega) (.slice (some ⟨g1, 0, none⟩) L c1) L _ rfl (owns_alloc HOW.out _) (wr.heap.size + 1) (some ⟨wr.heap.size, 0, none⟩) 4 4 _ rfl (reads_new4 _ _ _ _ _ _) (one4 _ _ _ _) (by have := HLK.out; simp only [maxLen]; omega) (by have := HLK.out; omega) (by have := HBEL.out.size; simp; omega) ?_; intro v1 w5 hown5 hgrow hat5; obtain ⟨g5, c5, rfl, hrow5, hlen5, hge5⟩ := Row.of_any (bytes4_eq hown5 HTK.out (by omega) (by omega) (by omega) (by omega)) (by omega); clear hown5)
        go_roundw
        case rel => exact ⟨k + 1, g5, c5, L + 4, by omega, by go_num, rfl, by have := HLK.out; omega, hrow5, hge5, below_grown (Nat.le_refl _) ((HBEL.out).alloc HBEL.out.size _) hgrow (by simp [Value.ownBlock]; exact hg1)⟩
        case measure => simp [intOf]; omega
      · obtain rfl : k = n := by omega
        have HR := Lib.hid (show Row wr g1 5 c1 (u8c (bytesM ys)) from by rw [← HL.out, List.take_length] at hrow; exact hrow)
        have hLc : L ≤ c1 := by have := hrow; obtain ⟨_, _, h1, _⟩ := hrow; simp [u8c, bytesM_len, HL.out] at h1; omega
        have HBEL := Lib.hid hbel
        have hsl1 : L - L = 0 := by omega
        clear hrow hbel
        by_cases hc : c1 = L
        · subst hc
          go_wp2_with fail
          go_loopw [63] (fun i wr => i = .int .i64 0 ∧ Row wr g1 5 c1 (u8c (bytesM ys)) ∧ Below w.heap.size w wr) (fun _ _ => 0)
          case atStart => exact ⟨rfl, HR.out, HBEL.out⟩
          case round =>
            clear HR HBEL
            obtain ⟨rfl, hrow, hbel⟩ := hrel
            have HR := Lib.hid hrow
            have HBEL := Lib.hid hbel
            clear hrow hbel
            go_wp2_with fail
            go_ret2
            refine ⟨HBEL.out, ?_⟩
            rw [if_pos (spareE_zero ys)]
            exact ⟨g1, _, by rw [HL.out, Nat.sub_zero, hN4]; rfl, HR.out, hg1⟩
        · go_wp2_with fail
          go_loopw [63] (fun i wr => i = .int .i64 0 ∧ Row wr g1 5 c1 (u8c (bytesM ys)) ∧ Below w.heap.size w wr) (fun _ _ => 0)
          case atStart => exact ⟨rfl, HR.out, HBEL.out⟩
          case round =>
            clear HR HBEL
            obtain ⟨rfl, hrow, hbel⟩ := hrel
            have HR := Lib.hid hrow
            have HBEL := Lib.hid hbel
            clear hrow hbel
            go_wp2_with fail
            go_ret2
            refine ⟨HBEL.out, ?_⟩
            rw [if_pos (spareE_zero ys)]
            exact ⟨g1, _, by rw [HL.out, Nat.sub_zero, hN4]; rfl, HR.out, hg1⟩
  · have hnz2 : ((n : Int) == 0) = false := by simp; omega
    have hsp : decide (0 < (s : Int)) = true := by simp; omega
    clear hpos hnz
    go_enter Tryd.func52, Tryd.ntmps52
    go_wp2_with fail
    clear hmk
    go_loopw [6, 36] (fun b i wr => ∃ (k g1 c1 L : Nat), k ≤ n ∧ i = .int .i64 k ∧ b = .slice (some ⟨g1, 0, none⟩) L c1 ∧ L = 4 * k ∧ Row wr g1 5 c1 (u8c (bytesM (ys.take k))) ∧ w.heap.size ≤ g1 ∧ Below w.heap.size w wr) (fun _ i _ => n - (intOf i).toNat)
    case atStart => exact ⟨0, _, _, _, by omega, rfl, rfl, rfl, hS.out, Nat.le_refl _, HB0.out⟩
    case round =>
      clear hS HB0
      obtain ⟨k, g1, c1, L, hk, rfl, rfl, hLk, hrow, hg1, hbel⟩ := hrel
      by_cases hlt : k < n
      · obtain ⟨ad, u0, hA, _, hx, hcell0⟩ := (HRD.out.below (hbel.mono hB)).at_ hlt
        obtain ⟨x, hxe, rfl⟩ := u32s_at hx
        have hx32 := HBB.out x (List.mem_of_getElem? hxe)
        have HTK := Lib.hid (bytesM_take ys k x hxe)
        have HOW := Lib.hid (show wr.ownsRow w.heap.size 5 1 (.slice (some ⟨g1, 0, none⟩) L c1) L (u8c (bytesM (ys.take k))) from by
          have hl : (u8c (bytesM (ys.take k))).length = L := by simp [u8c, bytesM_len, HL.out]; omega
          exact hrow.ownsB hg1 hl)
        subst hA
        have HBEL := Lib.hid hbel
        have HLK := Lib.hid hLk
        clear hrow hbel hx hxe hLk
        go_wp2_with (at_builtin; refine wpList_append_any _ rfl (.tmp 40) (.tmp 52) _ rfl w.heap.size 5 i0 _ 1 1 Tryd.underlying46 hi0 hz0 hz1 hz2 rfl (by omega) (.slice (some ⟨g1, 0, none⟩) L c1) L _ rfl (owns_alloc HOW.out _) (wr.heap.size + 1) (some ⟨wr.heap.size, 0, none⟩) 4 4 _ rfl (reads_new4 _ _ _ _ _ _) (one4 _ _ _ _) (by have := HLK.out; simp only [maxLen]; omega) (by have := HLK.out; omega) (by have := HBEL.out.size; simp; omega) ?_; intro v1 w5 hown5 hgrow hat5; obtain ⟨g5, c5, rfl, hrow5, hlen5, hge5⟩ := Row.of_any (bytes4_eq hown5 HTK.out (by omega) (by omega) (by omega) (by omega)) (by omega); clear hown5)
        go_roundw
        case rel => exact ⟨k + 1, g5, c5, L + 4, by omega, by go_num, rfl, by have := HLK.out; omega, hrow5, hge5, below_grown (Nat.le_refl _) ((HBEL.out).alloc HBEL.out.size _) hgrow (by simp [Value.ownBlock]; exact hg1)⟩
        case measure => simp [intOf]; omega
      · obtain rfl : k = n := by omega
        obtain rfl : L = N4 := by omega
        have HR := Lib.hid (show Row wr g1 5 c1 (u8c (bytesM ys)) from by rw [← HL.out, List.take_length] at hrow; exact hrow)
        have hLc : L ≤ c1 := by have := hrow; obtain ⟨_, _, h1, _⟩ := hrow; simp [u8c, bytesM_len, HL.out] at h1; omega
        have hc63 : c1 ≤ 9223372036854775807 := by obtain ⟨_, _, _, h1, _⟩ := hrow; unfold maxLen at h1; exact h1
        have HBEL := Lib.hid hbel
        obtain ⟨T, hT⟩ : ∃ T, L = T + s := ⟨L - s, by omega⟩
        have hT1 : (L : Int) - (s : Int) = (T : Int) := by omega
        have hT2 : L - T = s := by omega
        have hT3 : T ≤ L := by omega
        have hT4 : ¬ c1 = T := by omega
        have hT5 : (T : Int) ≤ (L : Int) := by omega
        have HT := Lib.hid hT
        clear hrow hbel hT hLk
        go_wp2_with fail
        go_loopw [63] (fun i wr => ∃ j : Nat, j ≤ s ∧ i = .int .i64 j ∧ (∀ m, m < j → (bytesM ys).getD (T + m) 0 = 0) ∧ Row wr g1 5 c1 (u8c (bytesM ys)) ∧ Below w.heap.size w wr) (fun i _ => s - (intOf i).toNat)
        case atStart => exact ⟨0, by omega, rfl, fun m h => absurd h (by omega), HR.out, HBEL.out⟩
        case round =>
          clear HR HBEL
          obtain ⟨j, hj, rfl, hzero, hrow, hbel⟩ := hrel
          have HZ := Lib.hid hzero
          have HR := Lib.hid hrow
          have HBEL := Lib.hid hbel
          by_cases hlt : j < s
          · have hlen : T + j < (bytesM ys).length := by rw [bytesM_len, HL.out, hN4, HT.out]; omega
            have hcell := hrow.cell (i := T + j) (u := .int .u8 ((bytesM ys).getD (T + j) 0 : Nat)) (by simp [u8c, List.getD_eq_getElem?_getD, List.getElem?_eq_getElem hlen])
            have HBY := Lib.hid (show ∀ b, (bytesM ys).getD (T + j) 0 = b → b = 0 → ∀ m, m < j + 1 → (bytesM ys).getD (T + m) 0 = 0 from fun b e1 e2 m hm => by
              by_cases h : m = j
              · subst h; rw [e1, e2]
              · exact hzero m (by omega))
            have HNZ := Lib.hid (show (bytesM ys).getD (T + j) 0 ≠ 0 → spareE ys s = 10 from fun hne => by
              unfold spareE
              rw [if_neg]
              intro hall
              rw [List.all_eq_true] at hall
              have hm : (bytesM ys).getD (T + j) 0 ∈ (bytesM ys).drop (4 * ys.length - s) := by
                rw [HL.out, hN4, HT.out, Nat.add_sub_cancel]
                rw [List.getD_eq_getElem?_getD, List.getElem?_eq_getElem hlen, Option.getD_some]
                rw [List.mem_drop_iff_getElem]
                exact ⟨j, by omega, rfl⟩
              have := hall _ hm
              simp at this
              exact hne (by simpa [List.getD_eq_getElem?_getD] using this))
            have hji : (j : Int) < (s : Int) := by omega
            clear hzero hrow hbel
            generalize hb : (bytesM ys).getD (T + j) 0 = b at *
            have HBB2 := Lib.hid hb
            clear hb hlen
            by_cases hb0 : b = 0
            · have hz := HBY.out b rfl hb0
              have HZ2 := Lib.hid hz
              have hbi : ((b : Int) != 0) = false := by simp; omega
              clear HBY HNZ hz
              go_wp2_with fail
              go_roundw
              case rel => exact ⟨j + 1, by omega, by go_num, HZ2.out, HR.out, HBEL.out⟩
              case measure => simp [intOf]; omega
            · have hbi : ((b : Int) != 0) = true := by simp; omega
              have HE := Lib.hid (HNZ.out hb0)
              clear HBY HNZ hb0
              go_wp2_with fail
              go_ret2
              refine ⟨HBEL.out, ?_⟩
              rw [HE.out, if_neg (by decide)]
              rfl
          · obtain rfl : j = s := by omega
            have HE := Lib.hid (show spareE ys j = 0 from by
              unfold spareE
              rw [if_pos]
              rw [List.all_eq_true]
              intro x hx
              rw [HL.out, hN4, HT.out, Nat.add_sub_cancel] at hx
              rw [List.mem_drop_iff_getElem] at hx
              obtain ⟨m, hm, rfl⟩ := hx
              rw [bytesM_len, HL.out, hN4, HT.out] at hm
              have := hzero m (by omega)
              rw [List.getD_eq_getElem?_getD, List.getElem?_eq_getElem (by rw [bytesM_len, HL.out, hN4, HT.out]; omega), Option.getD_some] at this
              simpa using this)
            clear hzero hrow hbel
            go_wp2_with fail
            go_ret2
            refine ⟨HBEL.out, ?_⟩
            rw [if_pos HE.out]
            exact ⟨g1, _, by rw [HL.out, hN4, HT.out, Nat.add_sub_cancel]; rfl, HR.out, hg1⟩
end Go.Proofs.YtpajpdjjpgbklaaDoor
