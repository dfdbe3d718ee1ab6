/- Headers: Unpack, header, Header. -/
import Derived.Test.YtkpjkbkglnabiaaGreatDoorHead
import Derived.Test.YtkpjkbkglnabiaaGreatDoorArr
import Derived.Deep.RegionWith
import Derived.Deep.RegionHeld3
set_option linter.unusedVariables false
namespace Go.Proofs.YtkpjkbkglnabiaaGreatDoor
open Go.RowKit

def unhd (a b c : Nat) : Hd := ⟨a % 16777216, a / 16777216 % 8, a / 134217728 % 4, b, c⟩
/-- Whether three words are a header. -/
def okhd (a b c : Nat) : Bool := (unhd a b c).may && decide (a < 536870912)
theorem unhd_fit (a b c : Nat) (hb : b < 4294967296) (hc : c < 4294967296) : (unhd a b c).Fit :=
  ⟨Nat.mod_lt _ (by omega), Nat.mod_lt _ (by omega), Nat.mod_lt _ (by omega), hb, hc⟩
theorem unhd_w0 (a b c : Nat) : (unhd a b c).w0 = a % 536870912 := by
  unfold Hd.w0 unhd
  simp only
  omega

theorem u32_and_mask (k m v : Nat) (hm : m = 2 ^ k - 1) (hk : k ≤ 32) (h : v < 4294967296) : bits .and .u32 (v : Int) (m : Int) = ((v % 2 ^ k : Nat) : Int) := by
  have h2 : (2 : Nat) ^ k ≤ 2 ^ 32 := Nat.pow_le_pow_right (by omega) hk
  rw [u32_and_nat _ _ h (by omega), hm, Nat.and_two_pow_sub_one_eq_mod]
theorem u32_and24 (v : Nat) (h : v < 4294967296) : bits .and .u32 (v : Int) 16777215 = ((v % 16777216 : Nat) : Int) := u32_and_mask 24 16777215 v (by omega) (by omega) h
theorem u32_and3 (v : Nat) (h : v < 4294967296) : bits .and .u32 (v : Int) 7 = ((v % 8 : Nat) : Int) := u32_and_mask 3 7 v (by omega) (by omega) h
theorem u32_and2 (v : Nat) (h : v < 4294967296) : bits .and .u32 (v : Int) 3 = ((v % 4 : Nat) : Int) := u32_and_mask 2 3 v (by omega) (by omega) h

set_option maxHeartbeats 1000000 in
theorem unpack_any (a b c : Nat) (ha : a < 4294967296) (hb : b < 4294967296) (hc : c < 4294967296) (w : World) (hs : Spares w) (hok : okhd a b c = true) :
    Calls Tryz.prog 94 #[.agg #[.int .u32 a, .int .u32 b, .int .u32 c]] w fun e w' => e = .returned (.tuple #[(unhd a b c).val, .int .i64 0]) ∧ Below w.heap.size w w' := by
  have e1 := u32_and24 a ha
  have e2 := u32_and3 (a / 16777216) (by omega)
  rw [show ((a / 16777216 : Nat) : Int) = (a : Int) / 16777216 from by omega] at e2
  have e3 := u32_and2 (a / 134217728) (by omega)
  rw [show ((a / 134217728 : Nat) : Int) = (a : Int) / 134217728 from by omega] at e3
  have hf := unhd_fit a b c hb hc
  have hx : (unhd a b c).val = .agg #[.int .i64 (a % 16777216 : Nat), .int .i64 (a / 16777216 % 8 : Nat), .int .i64 (a / 134217728 % 4 : Nat), .int .u32 b, .int .u32 c] := rfl
  have hmay : (unhd a b c).may = true := by unfold okhd at hok; simp only [Bool.and_eq_true] at hok; exact hok.1
  have hlt : a < 536870912 := by unfold okhd at hok; simp only [Bool.and_eq_true, decide_eq_true_eq] at hok; exact hok.2
  have hp : (unhd a b c).packed = .agg #[.int .u32 a, .int .u32 b, .int .u32 c] := by
    unfold Hd.packed; rw [unhd_w0, Nat.mod_eq_of_lt hlt]; rfl
  have HF := Lib.hid hf; clear hf
  have HX := Lib.hid hx; clear hx
  have HM1 := Lib.hid hmay; clear hmay
  have HP' := Lib.hid hp; clear hp
  have HS := Lib.hid hs; clear hs
  clear hok
  have g1 : a % 16777216 < 16777216 := Nat.mod_lt _ (by omega)
  have g2 : a / 16777216 % 8 < 8 := Nat.mod_lt _ (by omega)
  have g3 : a / 134217728 % 4 < 4 := Nat.mod_lt _ (by omega)
  generalize a % 16777216 = n at *
  generalize a / 16777216 % 8 = t at *
  generalize a / 134217728 % 4 = s at *
  generalize unhd a b c = x at *
  go_enter Tryz.func94, Tryz.ntmps94
  go_wp2_with fail
  generalize hW : ((w.alloc _).alloc _).alloc _ = W
  have hbW : Below w.heap.size w W := by rw [← hW]; exact (((Below.refl _ _).alloc (Nat.le_refl _) _).alloc (by simp) _).alloc (by simp; omega) _
  have B0 : Blk W w.heap.size 104 #[.int .u32 a, .int .u32 b, .int .u32 c] := by rw [← hW]; exact (((Blk.new _ _ _).alloc _).alloc _)
  have B1 : Blk W (w.heap.size + 1) 101 #[.int .i64 0, .int .i64 0, .int .i64 0, .int .u32 0, .int .u32 0] := by rw [← hW]; have := ((Blk.new (w.alloc (.cells #[.int .u32 a, .int .u32 b, .int .u32 c] 104)) 101 #[.int .i64 0, .int .i64 0, .int .i64 0, .int .u32 0, .int .u32 0]).alloc (.cells #[.int .i64 n, .int .i64 t, .int .i64 s, .int .u32 b, .int .u32 c] 101)); rw [World.size_alloc] at this; exact this
  have B2 : Blk W (w.heap.size + 1 + 1) 101 #[.int .i64 n, .int .i64 t, .int .i64 s, .int .u32 b, .int .u32 c] := by
    rw [← hW]
    have := Blk.new ((w.alloc (.cells #[.int .u32 a, .int .u32 b, .int .u32 c] 104)).alloc (.cells #[.int .i64 0, .int .i64 0, .int .i64 0, .int .u32 0, .int .u32 0] 101)) 101 #[.int .i64 n, .int .i64 t, .int .i64 s, .int .u32 b, .int .u32 c]
    rw [World.size_alloc, World.size_alloc] at this
    exact this
  clear hW
  have MC := Lib.hid (show ∀ W', Below W.heap.size W W' → Calls Tryz.prog 115 #[.agg #[.int .i64 n, .int .i64 t, .int .i64 s, .int .u32 b, .int .u32 c]] W' fun e w' => e = .returned (.bool true) ∧ Below W.heap.size W w' from fun W' h => by
    rw [← HX.out, ← HM1.out]
    exact (may_any x HF.out W' (HS.out.below (below_top hbW h))).mono fun _ _ ⟨h1, h2⟩ => ⟨h1, below_top h h2⟩)
  have PC := Lib.hid (show ∀ W', Below W.heap.size W W' → Calls Tryz.prog 116 #[.agg #[.int .i64 n, .int .i64 t, .int .i64 s, .int .u32 b, .int .u32 c]] W' fun e w' => e = .returned (.agg #[.int .u32 a, .int .u32 b, .int .u32 c]) ∧ Below W.heap.size W w' from fun W' h => by
    rw [← HX.out, ← HP'.out]
    exact (pack_any x HF.out W').mono fun _ _ ⟨h1, h2⟩ => ⟨h1, below_top h h2⟩)
  have KC := Lib.hid (show ∀ w', Below W.heap.size W w' → w'.cell? ⟨w.heap.size, 0, none⟩ = some (.int .u32 a) ∧ w'.cell? ⟨w.heap.size, 1, none⟩ = some (.int .u32 b) ∧ w'.cell? ⟨w.heap.size, 2, none⟩ = some (.int .u32 c) ∧
      w'.cell? ⟨w.heap.size + 1 + 1, 0, none⟩ = some (.int .i64 n) ∧ w'.cell? ⟨w.heap.size + 1 + 1, 1, none⟩ = some (.int .i64 t) ∧ w'.cell? ⟨w.heap.size + 1 + 1, 2, none⟩ = some (.int .i64 s) ∧ w'.cell? ⟨w.heap.size + 1 + 1, 3, none⟩ = some (.int .u32 b) ∧ w'.cell? ⟨w.heap.size + 1 + 1, 4, none⟩ = some (.int .u32 c) from fun w' h => by
    obtain ⟨a0, a1, a2⟩ := (B0.below h B0.lt).cells3
    exact ⟨a0, a1, a2, (B2.below h B2.lt).cells5⟩)
  have hb0 := Below.refl W.heap.size W
  have hq : ∀ w, (binOp .neq 104 (.agg #[.int .u32 a, .int .u32 b, .int .u32 c]) (.agg #[.int .u32 a, .int .u32 b, .int .u32 c])).run Tryz.prog w = .ok (.bool false) w := fun w => by
    rw [run_neq_arr3]; simp
  go_region_held3 (fun w' => w'.cell? ⟨w.heap.size, 0, none⟩ = some (.int .u32 a) ∧ w'.cell? ⟨w.heap.size, 1, none⟩ = some (.int .u32 b) ∧ w'.cell? ⟨w.heap.size, 2, none⟩ = some (.int .u32 c) ∧
      w'.cell? ⟨w.heap.size + 1 + 1, 0, none⟩ = some (.int .i64 n) ∧ w'.cell? ⟨w.heap.size + 1 + 1, 1, none⟩ = some (.int .i64 t) ∧ w'.cell? ⟨w.heap.size + 1 + 1, 2, none⟩ = some (.int .i64 s) ∧ w'.cell? ⟨w.heap.size + 1 + 1, 3, none⟩ = some (.int .u32 b) ∧ w'.cell? ⟨w.heap.size + 1 + 1, 4, none⟩ = some (.int .u32 c))
    (first | exact KC.out _ (by assumption) | exact KC.out _ (Below.drew (by assumption)))
    (first
      | (go_at_call 115; refine (MC.out _ (by first | assumption | exact Below.drew (by assumption))).mono ?_; rintro e w1 ⟨rfl, hb1⟩)
      | (go_at_call 116; refine (PC.out _ (by first | assumption | exact Below.drew (by assumption))).mono ?_; rintro e w2 ⟨rfl, hb2⟩))
  obtain ⟨a0, a1, a2, a3, a4⟩ := (B2.below hb2 B2.lt).cells5
  have B1' := B1.below hb2 B1.lt
  obtain ⟨d0, d1, d2, d3, d4⟩ := B1'.cells5
  have z1 := B1'.fz
  have hz1 := B1'.lt
  clear hq hb0
  go_wp2_with fail
  refine bodyPost_ret (v := .tuple #[.agg #[.int .i64 n, .int .i64 t, .int .i64 s, .int .u32 b, .int .u32 c], .int .i64 0]) (by simp [results, Tryz.results94, go_sem, d0, d1, d2, d3, d4]) rfl ⟨by rw [HX.out], ?_⟩
  exact (((((below_top hbW hb2).setCell (by simp) _).setCell (by simp) _).setCell (by simp) _).setCell (by simp) _).setCell (by simp) _

set_option maxHeartbeats 1000000 in
theorem unpack_bad (a b c : Nat) (ha : a < 4294967296) (hb : b < 4294967296) (hc : c < 4294967296) (w : World) (hs : Spares w) (hok : okhd a b c = false) :
    Calls Tryz.prog 94 #[.agg #[.int .u32 a, .int .u32 b, .int .u32 c]] w fun e w' => e = .returned (.tuple #[.agg #[.int .i64 0, .int .i64 0, .int .i64 0, .int .u32 0, .int .u32 0], .int .i64 10]) ∧ Below w.heap.size w w' := by
  have e1 := u32_and24 a ha
  have e2 := u32_and3 (a / 16777216) (by omega)
  rw [show ((a / 16777216 : Nat) : Int) = (a : Int) / 16777216 from by omega] at e2
  have e3 := u32_and2 (a / 134217728) (by omega)
  rw [show ((a / 134217728 : Nat) : Int) = (a : Int) / 134217728 from by omega] at e3
  have hf := unhd_fit a b c hb hc
  have hx : (unhd a b c).val = .agg #[.int .i64 (a % 16777216 : Nat), .int .i64 (a / 16777216 % 8 : Nat), .int .i64 (a / 134217728 % 4 : Nat), .int .u32 b, .int .u32 c] := rfl
  have hp : (unhd a b c).packed = .agg #[.int .u32 (a % 536870912 : Nat), .int .u32 b, .int .u32 c] := by
    unfold Hd.packed; rw [unhd_w0]; rfl
  have hlt : (unhd a b c).may = true → ((a % 536870912 : Nat) : Int) ≠ (a : Int) := by
    intro hm; unfold okhd at hok; rw [hm] at hok; simp at hok; omega
  have HF := Lib.hid hf; clear hf
  have HX := Lib.hid hx; clear hx
  have HLT := Lib.hid hlt; clear hlt
  have HP' := Lib.hid hp; clear hp
  have HS := Lib.hid hs; clear hs
  clear hok
  have g1 : a % 16777216 < 16777216 := Nat.mod_lt _ (by omega)
  have g2 : a / 16777216 % 8 < 8 := Nat.mod_lt _ (by omega)
  have g3 : a / 134217728 % 4 < 4 := Nat.mod_lt _ (by omega)
  generalize a % 16777216 = n at *
  generalize a / 16777216 % 8 = t at *
  generalize a / 134217728 % 4 = s at *
  generalize a % 536870912 = v at *
  generalize unhd a b c = x at *
  go_enter Tryz.func94, Tryz.ntmps94
  go_wp2_with fail
  generalize hW : ((w.alloc _).alloc _).alloc _ = W
  have hbW : Below w.heap.size w W := by rw [← hW]; exact (((Below.refl _ _).alloc (Nat.le_refl _) _).alloc (by simp) _).alloc (by simp; omega) _
  have B0 : Blk W w.heap.size 104 #[.int .u32 a, .int .u32 b, .int .u32 c] := by rw [← hW]; exact (((Blk.new _ _ _).alloc _).alloc _)
  have B1 : Blk W (w.heap.size + 1) 101 #[.int .i64 0, .int .i64 0, .int .i64 0, .int .u32 0, .int .u32 0] := by rw [← hW]; have := ((Blk.new (w.alloc (.cells #[.int .u32 a, .int .u32 b, .int .u32 c] 104)) 101 #[.int .i64 0, .int .i64 0, .int .i64 0, .int .u32 0, .int .u32 0]).alloc (.cells #[.int .i64 n, .int .i64 t, .int .i64 s, .int .u32 b, .int .u32 c] 101)); rw [World.size_alloc] at this; exact this
  have B2 : Blk W (w.heap.size + 1 + 1) 101 #[.int .i64 n, .int .i64 t, .int .i64 s, .int .u32 b, .int .u32 c] := by
    rw [← hW]
    have := Blk.new ((w.alloc (.cells #[.int .u32 a, .int .u32 b, .int .u32 c] 104)).alloc (.cells #[.int .i64 0, .int .i64 0, .int .i64 0, .int .u32 0, .int .u32 0] 101)) 101 #[.int .i64 n, .int .i64 t, .int .i64 s, .int .u32 b, .int .u32 c]
    rw [World.size_alloc, World.size_alloc] at this
    exact this
  clear hW
  have MC := Lib.hid (show ∀ W', Below W.heap.size W W' → Calls Tryz.prog 115 #[.agg #[.int .i64 n, .int .i64 t, .int .i64 s, .int .u32 b, .int .u32 c]] W' fun e w' => e = .returned (.bool x.may) ∧ Below W.heap.size W w' from fun W' h => by
    rw [← HX.out]
    exact (may_any x HF.out W' (HS.out.below (below_top hbW h))).mono fun _ _ ⟨h1, h2⟩ => ⟨h1, below_top h h2⟩)
  have PC := Lib.hid (show ∀ W', Below W.heap.size W W' → Calls Tryz.prog 116 #[.agg #[.int .i64 n, .int .i64 t, .int .i64 s, .int .u32 b, .int .u32 c]] W' fun e w' => e = .returned (.agg #[.int .u32 v, .int .u32 b, .int .u32 c]) ∧ Below W.heap.size W w' from fun W' h => by
    rw [← HX.out, ← HP'.out]
    exact (pack_any x HF.out W').mono fun _ _ ⟨h1, h2⟩ => ⟨h1, below_top h h2⟩)
  have KC := Lib.hid (show ∀ w', Below W.heap.size W w' → w'.cell? ⟨w.heap.size, 0, none⟩ = some (.int .u32 a) ∧ w'.cell? ⟨w.heap.size, 1, none⟩ = some (.int .u32 b) ∧ w'.cell? ⟨w.heap.size, 2, none⟩ = some (.int .u32 c) ∧
      w'.cell? ⟨w.heap.size + 1 + 1, 0, none⟩ = some (.int .i64 n) ∧ w'.cell? ⟨w.heap.size + 1 + 1, 1, none⟩ = some (.int .i64 t) ∧ w'.cell? ⟨w.heap.size + 1 + 1, 2, none⟩ = some (.int .i64 s) ∧ w'.cell? ⟨w.heap.size + 1 + 1, 3, none⟩ = some (.int .u32 b) ∧ w'.cell? ⟨w.heap.size + 1 + 1, 4, none⟩ = some (.int .u32 c) from fun w' h => by
    obtain ⟨a0, a1, a2⟩ := (B0.below h B0.lt).cells3
    exact ⟨a0, a1, a2, (B2.below h B2.lt).cells5⟩)
  have hb0 := Below.refl W.heap.size W
  cases hmay : x.may
  · rw [hmay] at MC
    clear hmay HLT
    obtain ⟨a0, a1, a2, a3, a4, a5, a6, a7⟩ := KC.out W hb0
    go_region_with (first
        | (go_at_call 115; refine (MC.out _ (by first | assumption | exact Below.drew (by assumption))).mono ?_; rintro e w1 ⟨rfl, hb1⟩))
    all_goals
      have B1' := B1.below hb1 B1.lt
      obtain ⟨d0, d1, d2, d3, d4⟩ := B1'.cells5
      have z1 := B1'.fz
      have hz1 := B1'.lt
      clear hb0
      go_wp2_with fail
      refine bodyPost_ret (v := .tuple #[.agg #[.int .i64 0, .int .i64 0, .int .i64 0, .int .u32 0, .int .u32 0], .int .i64 10]) (by simp [results, Tryz.results94, go_sem, d0, d1, d2, d3, d4]) rfl ⟨rfl, ?_⟩
      exact (((((below_top hbW hb1).setCell (by simp) _).setCell (by simp) _).setCell (by simp) _).setCell (by simp) _).setCell (by simp) _
  · rw [hmay] at MC
    have hne := HLT.out hmay
    clear hmay HLT
    have hq : ∀ w, (binOp .neq 104 (.agg #[.int .u32 v, .int .u32 b, .int .u32 c]) (.agg #[.int .u32 a, .int .u32 b, .int .u32 c])).run Tryz.prog w = .ok (.bool true) w := fun w => by
      rw [run_neq_arr3, show ((v : Int) == (a : Int)) = false from beq_eq_false_iff_ne.2 hne]; simp
    clear hne
    go_region_held3 (fun w' => w'.cell? ⟨w.heap.size, 0, none⟩ = some (.int .u32 a) ∧ w'.cell? ⟨w.heap.size, 1, none⟩ = some (.int .u32 b) ∧ w'.cell? ⟨w.heap.size, 2, none⟩ = some (.int .u32 c) ∧
      w'.cell? ⟨w.heap.size + 1 + 1, 0, none⟩ = some (.int .i64 n) ∧ w'.cell? ⟨w.heap.size + 1 + 1, 1, none⟩ = some (.int .i64 t) ∧ w'.cell? ⟨w.heap.size + 1 + 1, 2, none⟩ = some (.int .i64 s) ∧ w'.cell? ⟨w.heap.size + 1 + 1, 3, none⟩ = some (.int .u32 b) ∧ w'.cell? ⟨w.heap.size + 1 + 1, 4, none⟩ = some (.int .u32 c))
      (first | exact KC.out _ (by assumption) | exact KC.out _ (Below.drew (by assumption)))
      (first
        | (go_at_call 115; refine (MC.out _ (by first | assumption | exact Below.drew (by assumption))).mono ?_; rintro e w1 ⟨rfl, hb1⟩)
        | (go_at_call 116; refine (PC.out _ (by first | assumption | exact Below.drew (by assumption))).mono ?_; rintro e w2 ⟨rfl, hb2⟩))
    have B1' := B1.below hb2 B1.lt
    obtain ⟨d0, d1, d2, d3, d4⟩ := B1'.cells5
    have z1 := B1'.fz
    have hz1 := B1'.lt
    clear hb0 hq
    go_wp2_with fail
    refine bodyPost_ret (v := .tuple #[.agg #[.int .i64 0, .int .i64 0, .int .i64 0, .int .u32 0, .int .u32 0], .int .i64 10]) (by simp [results, Tryz.results94, go_sem, d0, d1, d2, d3, d4]) rfl ⟨rfl, ?_⟩
    exact (((((below_top hbW hb2).setCell (by simp) _).setCell (by simp) _).setCell (by simp) _).setCell (by simp) _).setCell (by simp) _
end Go.Proofs.YtkpjkbkglnabiaaGreatDoor
