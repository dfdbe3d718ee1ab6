import Derived.Test.YthadjmhipckelaaGreatDoorJIHead
import Derived.Test.YthadjmhipckelaaGreatDoorJMay
import Derived.Test.YthadjmhipckelaaGreatDoorJLive
import Derived.OwnWalkIn
set_option linter.unusedVariables false
set_option linter.unusedSimpArgs false
set_option linter.unusedSectionVars false
namespace Go.Proofs.YthadjmhipckelaaGreatDoor
section
open Go.RowKit
attribute [local go_sem] Oper.semAt_some
theorem wpListIn_app_RB {F : Fence} {n : Nat} {ops : Array Oper} {rest : List Oper} {o : Oper} {a : Act} {Q : Exit → Act → World → Prop} {w w2 : World} {B m c : Nat} {v : Value} {bs cs : List Nat} {A : Option Addr} (s x : Operand)
 (C : RB w2 w B v bs) (hr : Reads w w.heap.size 1 A m (u8c cs)) (hs : a.eval s = v) (hx : a.eval x = .slice A m c) (hn : bs.length + m ≤ 100000000000000)
 (ho : o.op = .call { callee := .builtin .append, args := #[s, x], argTypes := #[22, 22] }) (hgd : o.guard = none)
 (h : ∀ v' w', RB w2 w' B v' (bs ++ cs) → w.grownBy w' v.ownBlock → wpListIn F n Tryz.prog ops Q rest (a.put o.dst v') w') : wpListIn F n Tryz.prog ops Q (o :: rest) a w := by
 obtain ⟨i0, hi0, hz0, hz1, hz2⟩ := info_parts info_u8
 refine wpListIn_plain hgd fun K hK' => ?_
 obtain ⟨v', w', hrun, h2, h3, h4⟩ := run_append_any (P := Tryz.prog) w B 22 o.type 5 i0 _ 1 1 Tryz.underlying22 hi0 hz0 hz1 hz2 rfl (by omega) v bs.length (u8c bs) C.own w.heap.size A m c (u8c cs) hr (one_u8c _) (by simp only [maxLen]; omega) (by omega) C.top
 unfold Oper.wpIn
 refine ⟨?_, ?_⟩
 ·simp [Oper.about, ho, resolve, Target.leads, Sem.run_pure]
 ·rw [Oper.semAt_plain F _ _ (by rw [ho]; intro c hc'; cases hc')]
  simp [execOp, ho, resolve, invoke, builtin, hs, hx, hrun, Result.andThen]
  exact hK' _ _ (h _ _ (C.app (by have := hr.1; rw [u8c_len, Nat.mul_one] at this; exact this) h2 h3) h3)
theorem reads_one (w : World) (x : Nat) : Reads (w.alloc (.cells #[.int .u8 (x : Int)] 5)) (w.alloc (.cells #[.int .u8 (x : Int)] 5)).heap.size 1 (some ⟨w.heap.size, 0, none⟩) 1 (u8c [x]) := by
 have h := reads_new w [x] 1 rfl
 rw [World.size_alloc]
 exact h
end
section
open Go.RowKit
attribute [local go_sem] Oper.semAt_some
def tailA (A : Option Addr) (c k : Nat) : Option Addr := if c = k then A else A.map (·.add (k * 1))
theorem slice_rest (w : World) (A : Option Addr) (n c k : Nat) (h : k ≤ n) : (Instr.slice 22 (.slice A n c) (some (.int .i64 k)) none none).run Tryz.prog w = .ok (.slice (tailA A c k) (n - k) (c - k)) w := by
 have he : Program.elem Tryz.prog 22 = 5 := by simp [Program.elem, Tryz.underlying22]
 have hz : ∀ w, (Go.sizeOf 5).run Tryz.prog w = .ok 1 w := fun w => by go_simp
 rw [run_slice_l (P := Tryz.prog) w 22 A n c (by rw [he]; exact Tryz.underlying22) .i64 k (by omega) (by omega), he, hz]
 simp only [Result.andThen, sliced, Int.toNat_natCast]
 rfl
theorem slice_head (w : World) (A : Option Addr) (n c k : Nat) (h : k ≤ c) : (Instr.slice 22 (.slice A n c) none (some (.int .i64 k)) none).run Tryz.prog w = .ok (.slice (tailA A c 0) k c) w := by
 have he : Program.elem Tryz.prog 22 = 5 := by simp [Program.elem, Tryz.underlying22]
 have hz : ∀ w, (Go.sizeOf 5).run Tryz.prog w = .ok 1 w := fun w => by go_simp
 rw [run_slice_h (P := Tryz.prog) w 22 A n c (by rw [he]; exact Tryz.underlying22) .i64 k (by omega) (by omega), he, hz]
 simp only [Result.andThen, sliced, Int.toNat_natCast]
 rfl
theorem reads_rest {w : World} {B n c k : Nat} {A : Option Addr} {bs : List Nat} (h : Reads w B 1 A n (u8c bs)) (hc : n ≤ c) (hk : k ≤ n) : Reads w B 1 (tailA A c k) (n - k) (u8c (bs.drop k)) := by
 have hl : bs.length = n := by have := h.1; rw [u8c_len] at this; omega
 refine ⟨by rw [u8c_len, List.length_drop]; omega, fun hn => ?_⟩
 obtain ⟨ad, e, hb, hx⟩ := h.2 (by omega)
 subst e
 unfold tailA
 rw [if_neg (by omega)]
 refine ⟨ad.add (k * 1), rfl, by rw [block_of_add]; exact hb, fun j u hu => ?_⟩
 have := hx (k + j) u (by unfold u8c at hu ⊢; rw [List.getElem?_map, List.getElem?_drop] at hu; rw [List.getElem?_map]; exact hu)
 rw [show (ad.add (k * 1)).add j = ad.add (k + j) by unfold Addr.add; by_cases hk0 : k = 0 <;> by_cases hj : j = 0 <;> simp [hk0, hj, Nat.add_assoc]]
 exact this
theorem reads_head {w : World} {B n c k : Nat} {A : Option Addr} {bs : List Nat} (h : Reads w B 1 A n (u8c bs)) (hk : k ≤ n) : Reads w B 1 (tailA A c 0) k (u8c (bs.take k)) := by
 have hl : bs.length = n := by have := h.1; rw [u8c_len] at this; omega
 refine ⟨by rw [u8c_len, List.length_take]; omega, fun hn => ?_⟩
 obtain ⟨ad, e, hb, hx⟩ := h.2 (by omega)
 subst e
 have e : tailA (some ad) c 0 = some ad := by
  unfold tailA
  split
  ·rfl
  ·simp [Addr.add]
 rw [e]
 refine ⟨ad, rfl, hb, fun j u hu => hx j u ?_⟩
 unfold u8c at hu ⊢
 rw [List.getElem?_map, List.getElem?_take] at hu
 rw [List.getElem?_map]
 split at hu
 ·exact hu
 ·cases hu
structure RdAt (w : World) (L rg : Nat) (A : Option Addr) (c : Nat) (bs : List Nat) (bad : Bool) : Prop where
 box : Blk w rg 129 #[.slice A bs.length c, .bool bad]
 cap : bs.length ≤ c
 rd : Reads w L 1 A bs.length (u8c bs)
 far : L ≤ rg
 b8 : ∀ x ∈ bs, x < 256
structure Fr1 (rg : Nat) (w w' : World) : Prop where
 os : w'.os = w.os
 tape : w'.tape = w.tape
 output : w'.output = w.output
 size : w.heap.size ≤ w'.heap.size
 same : ∀ k, k < w.heap.size → k ≠ rg → w'.heap[k]? = w.heap[k]?
theorem Fr1.refl (rg : Nat) (w : World) : Fr1 rg w w := ⟨rfl, rfl, rfl, Nat.le_refl _, fun _ _ _ => rfl⟩
theorem Fr1.trans {rg : Nat} {w w' w'' : World} (h : Fr1 rg w w') (k : Fr1 rg w' w'') : Fr1 rg w w'' :=
 ⟨k.os.trans h.os, k.tape.trans h.tape, k.output.trans h.output, Nat.le_trans h.size k.size, fun i hi hne => (k.same i (Nat.lt_of_lt_of_le hi h.size) hne).trans (h.same i hi hne)⟩
theorem Fr1.set (rg i : Nat) (w : World) (v : Value) : Fr1 rg w (w.setCell ⟨rg, i, none⟩ v) :=
 ⟨rfl, rfl, rfl, by simp [World.setCell], fun k _ hne => Below.heap_setCell w ⟨rg, i, none⟩ v k hne⟩
theorem Fr1.of_below {rg : Nat} {w w' : World} (h : Below w.heap.size w w') : Fr1 rg w w' := ⟨h.os, h.tape, h.output, h.size, fun k hk _ => h.block k hk⟩
theorem Fr1.below {rg B : Nat} {w w' : World} (h : Fr1 rg w w') (hB : B ≤ rg) (hw : B ≤ w.heap.size) : Below B w w' := ⟨h.os, h.tape, h.output, h.size, fun k hk => h.same k (by omega) (by omega)⟩
theorem RdAt.below {w w' : World} {L rg c : Nat} {A : Option Addr} {bs : List Nat} {bad : Bool} (R : RdAt w L rg A c bs bad) (h : Below w.heap.size w w') : RdAt w' L rg A c bs bad :=
 ⟨R.box.below h R.box.lt, R.cap, R.rd.below (h.mono (by have := R.far; have := R.box.lt; omega)), R.far, R.b8⟩
def Rdd {α : Type} (bad : Bool) (r : Option (α × List Nat)) (v : α) (bs' : List Nat) (bad' : Bool) : Prop :=
 (bad' = false → bad = false ∧ r = some (v, bs')) ∧ (bad = false → (∃ p, r = some p) → bad' = false)
def rdB : List Nat → Option (Nat × List Nat)
 | [] => none
 | x :: t => some (x, t)
def ByteP (L rg : Nat) (bs : List Nat) (bad : Bool) (w : World) (e : Ending) (w' : World) : Prop :=
 ∃ x A c bs' bad', e = .returned (.int .u8 (x : Nat)) ∧ x < 256 ∧ RdAt w' L rg A c bs' bad' ∧ Fr1 rg w w' ∧ Rdd bad (rdB bs) x bs' bad' ∧ ∃ d, bs = d ++ bs'
set_option maxRecDepth 100000 in
theorem rbyteI_any {w : World} {L rg c : Nat} {A : Option Addr} {bs : List Nat} {bad : Bool} (R : RdAt w L rg A c bs bad) (hn : bs.length ≤ 9000000) :
 Calls Tryz.prog 90 #[.pointer (some ⟨rg, 0, none⟩)] w (ByteP L rg bs bad w) := by
 have c0 := R.box.cell 0
 have c1 := R.box.cell 1
 have z0 := R.box.frozen 0
 have z1 := R.box.frozen 1
 match bs, R with
 | [], R =>
   have HF := Lib.hid (show ByteP L rg [] bad w (.returned (.int .u8 0)) (w.setCell ⟨rg, 1, none⟩ (.bool true)) from
    ⟨0, A, c, [], true, rfl, by decide, ⟨R.box.set_ 1 _, R.cap, R.rd.below (Below.setCell (Below.refl _ _) (p := ⟨rg, 1, none⟩) R.far _), R.far, R.b8⟩, Fr1.set _ _ _ _, ⟨fun h => (by cases h), fun _ h => by obtain ⟨p, hp⟩ := h; cases hp⟩, [], rfl⟩)
   go_enter Tryz.func90, Tryz.ntmps90
   go_wp2_with fail
   go_ret
   exact HF.out
 | x :: t, R =>
   have hc := R.cap
   rw [List.length_cons] at hc
   have hx := R.b8 x (by simp)
   obtain ⟨ad, hA, hb, hcl⟩ := R.rd.2 (by simp)
   subst hA
   have h0 := hcl 0 (.int .u8 (x : Nat)) (by simp [u8c])
   have e0 : ad.add 0 = ad := by simp [Addr.add]
   rw [e0] at h0
   have hsl := fun w => slice_rest w (some ad) (t.length + 1) c 1 (by omega)
   have hrr := reads_rest (k := 1) R.rd R.cap (by simp)
   have HF := Lib.hid (show ∀ A' c', tailA (some ad) c 1 = A' → c - 1 = c' → ByteP L rg (x :: t) bad w (.returned (.int .u8 (x : Nat))) (w.setCell ⟨rg, 0, none⟩ (.slice A' t.length c')) from fun A' c' hA' hc' => by
    subst hA' hc'
    exact ⟨x, tailA (some ad) c 1, c - 1, t, bad, rfl, hx, ⟨R.box.set_ 0 _, by omega, by
     have := hrr.below (Below.setCell (Below.refl _ _) (p := ⟨rg, 0, none⟩) R.far (.slice (tailA (some ad) c 1) (t.length + 1 - 1) (c - 1)))
     simpa using this, R.far, fun y hy => R.b8 y (by simp [hy])⟩, Fr1.set _ _ _ _, ⟨fun h => ⟨h, rfl⟩, fun h _ => h⟩, [x], rfl⟩)
   clear hrr R hcl hb e0
   rw [List.length_cons] at c0
   go_enter Tryz.func90, Tryz.ntmps90
   go_wp2_with fail
   all_goals go_ret
   all_goals exact HF.out _ _ (by simp [tailA, Addr.add, *]) (by omega)
end
section
open Go.RowKit
attribute [local go_sem] Oper.semAt_some
theorem u8_low7 (x : Nat) (hx : x < 256) : bits .and .u8 (x : Int) 127 = ((x % 128 : Nat) : Int) := by
 have h := u8_and_nat x 127 hx (by omega)
 rw [show x &&& 127 = x % 128 from Nat.and_two_pow_sub_one_eq_mod x 7] at h
 exact h
theorem u64_join (i m y : Nat) (hm : m < 2 ^ i) (hy : y * 2 ^ i < 18446744073709551616) (hm2 : m < 18446744073709551616) : bits .or .u64 (m : Int) ((y * 2 ^ i : Nat) : Int) = ((m + y * 2 ^ i : Nat) : Int) := by
 rw [u64_or_nat _ _ hm2 hy, Nat.or_comm, nat_join i _ _ (by simp) hm, Nat.add_comm]
def NumP (L rg : Nat) (bs : List Nat) (bad : Bool) (w : World) (e : Ending) (w' : World) : Prop :=
 ∃ v A c bs' bad', e = .returned (.int .u32 (v : Nat)) ∧ v < 4294967296 ∧ RdAt w' L rg A c bs' bad' ∧ Fr1 rg w w' ∧ Rdd bad (rdNum bs) v bs' bad' ∧ ∃ d, bs = d ++ bs'
theorem numP_bad {w W : World} {L rg c : Nat} {A : Option Addr} {bs bs' : List Nat} {bad bad' : Bool} (R : RdAt W L rg A c bs' bad') (F : Fr1 rg w W) (hd : ∃ d, bs = d ++ bs') (h : bad = true ∨ rdNum bs = none) :
 NumP L rg bs bad w (.returned (.int .u32 0)) (W.setCell ⟨rg, 1, none⟩ (.bool true)) :=
 ⟨0, A, c, bs', true, rfl, by decide, ⟨R.box.set_ 1 _, R.cap, R.rd.below (Below.setCell (Below.refl _ _) (p := ⟨rg, 1, none⟩) R.far _), R.far, R.b8⟩, F.trans (Fr1.set _ _ _ _), ⟨fun e => (by cases e), fun e hp => by
   obtain ⟨p, hp⟩ := hp
   rcases h with h | h
   ·rw [h] at e; cases e
   ·rw [h] at hp; cases hp⟩, hd⟩
theorem numP_good {w W : World} {L rg c v : Nat} {A : Option Addr} {bs bs' : List Nat} (hv : v < 4294967296) (R : RdAt W L rg A c bs' false) (F : Fr1 rg w W) (hd : ∃ d, bs = d ++ bs') (h : rdNum bs = some (v, bs')) :
 NumP L rg bs false w (.returned (.int .u32 (v : Nat))) W := ⟨v, A, c, bs', false, rfl, hv, R, F, ⟨fun _ => ⟨rfl, h⟩, fun e _ => e⟩, hd⟩
def RdS (bs : List Nat) (bad : Bool) (i m : Nat) (bs' : List Nat) : Prop := m < 128 ^ i ∧ (i = 0 ∨ bad = false) ∧ ((i ≤ 4 ∧ rdN i m bs' = rdNum bs) ∨ (i = 5 ∧ rdNum bs = none)) ∧ ∃ d, bs = d ++ bs'
theorem RdS.stop {bs bs' t : List Nat} {bad : Bool} {i m x : Nat} (S : RdS bs bad i m bs') (hb : bs' = x :: t) (h : i = 5 ∨ (0 < i ∧ x = 0) ∨ 4294967296 ≤ m + 128 ^ i * (x % 128)) (hx : x < 256) : rdNum bs = none := by
 obtain ⟨h1, h2, h3 | h3, h4⟩ := S
 ·rw [← h3.2, hb]
  unfold rdN
  by_cases h128 : x < 128
  ·rw [if_pos h128, if_pos]
   rcases h with h | h | h
   ·omega
   ·exact .inl ⟨h.2, h.1⟩
   ·exact .inr h
  ·rw [if_neg h128, if_pos]
   rcases h with h | h | h
   ·omega
   ·omega
   ·have : x % 128 < 128 := Nat.mod_lt _ (by omega)
    rcases (by omega : i = 0 ∨ i = 1 ∨ i = 2 ∨ i = 3 ∨ i = 4) with rfl | rfl | rfl | rfl | rfl <;> simp at h h1 <;> omega
 ·exact h3.2
theorem RdS.done {bs bs' t : List Nat} {bad : Bool} {i m x : Nat} (S : RdS bs bad i m bs') (hb : bs' = x :: t) (hi : i ≤ 4) (h1 : ¬ (0 < i ∧ x = 0)) (h2 : m + 128 ^ i * (x % 128) < 4294967296) (hx : x < 128) : rdNum bs = some (m + 128 ^ i * (x % 128), t) := by
 obtain ⟨_, _, h3 | h3, h4⟩ := S
 ·rw [← h3.2, hb]
  unfold rdN
  rw [if_pos hx, if_neg (by omega)]
 ·omega
theorem RdS.next {bs bs' t : List Nat} {bad : Bool} {i m x : Nat} (S : RdS bs bad i m bs') (hbd : bad = false) (hb : bs' = x :: t) (hi : i ≤ 4) (hx : ¬ x < 128) : RdS bs bad (i + 1) (m + 128 ^ i * (x % 128)) t := by
 obtain ⟨h0, _, h3, d, h4⟩ := S
 have h5 : x % 128 < 128 := Nat.mod_lt _ (by omega)
 have h6 : 128 ^ i * (x % 128) ≤ 128 ^ i * 127 := Nat.mul_le_mul_left _ (by omega)
 refine ⟨by rw [Nat.pow_succ]; omega, .inr hbd, ?_, d ++ [x], by rw [h4, hb]; simp⟩
 rcases h3 with h3 | h3
 ·rw [hb] at h3
  obtain ⟨_, h3⟩ := h3
  unfold rdN at h3
  rw [if_neg hx] at h3
  by_cases h4 : 4 ≤ i
  ·rw [if_pos h4] at h3
   exact .inr ⟨by omega, h3.symm⟩
  ·rw [if_neg h4] at h3
   exact .inl ⟨by omega, h3⟩
 ·omega
set_option maxRecDepth 100000 in
set_option maxHeartbeats 8000000 in
theorem rnumberI_any {w : World} {L rg c : Nat} {A : Option Addr} {bs : List Nat} {bad : Bool} (R : RdAt w L rg A c bs bad) (hn : bs.length ≤ 9000000) :
 Calls Tryz.prog 68 #[.pointer (some ⟨rg, 0, none⟩)] w (NumP L rg bs bad w) := by
 have HR := Lib.hid R
 clear R
 go_enter Tryz.func68, Tryz.ntmps68
 go_wp2_with fail
 go_step3
 go_wp2_with fail
 go_step3
 go_wp2_with fail
 go_loopw [3, 4] (fun n s wr => ∃ (i m c' : Nat) (A' : Option Addr) (bs' : List Nat), s = .int .i64 ((7 * i : Nat) : Int) ∧ n = .int .u64 (m : Int) ∧ i ≤ 5 ∧ RdS bs bad i m bs' ∧ RdAt wr L rg A' c' bs' bad ∧ Fr1 rg w wr) (fun _ s _ => 40 - (intOf s).toNat)
 case atStart => exact ⟨0, 0, c, A, bs, rfl, rfl, by omega, ⟨by decide, .inl rfl, .inl ⟨by omega, rfl⟩, [], rfl⟩, HR.out, Fr1.refl _ _⟩
 case round =>
  clear HR
  obtain ⟨i, m, c', A', bs', rfl, rfl, hi, S, R, F⟩ := hrel
  have HS := Lib.hid S
  have HF := Lib.hid F
  have hl' : bs'.length ≤ 9000000 := by obtain ⟨_, _, _, d, h4⟩ := S; rw [h4, List.length_append] at hn; omega
  have hm1 : m < 2 ^ (7 * i) := by rw [Nat.pow_mul]; exact S.1
  have HB := Lib.hid (rbyteI_any R hl')
  clear S F R
  obtain rfl | rfl | rfl | rfl | rfl | rfl : i = 0 ∨ i = 1 ∨ i = 2 ∨ i = 3 ∨ i = 4 ∨ i = 5 := by omega
  ·go_wp2_with fail
   refine HB.out.mono ?_
   rintro e w5 ⟨x, A5, c5, bs5, bad5, rfl, hx, R5, F5, D5, d5, hd5⟩
   have HR5 := Lib.hid R5
   have HF5 := Lib.hid (HF.out.trans F5)
   have k1 := R5.box.cell 1
   have z1 := R5.box.frozen 1
   have hsf : ∃ d, bs = d ++ bs5 := by obtain ⟨_, _, _, d, h4⟩ := HS.out; exact ⟨d ++ d5, by rw [h4, hd5, List.append_assoc]⟩
   have HSF := Lib.hid hsf
   have HD := Lib.hid D5
   have hxm : x % 128 < 128 := Nat.mod_lt _ (by omega)
   have hlow := u8_low7 x hx
   have hjn := u64_join 0 m (x % 128) hm1 (by omega) (Nat.lt_of_lt_of_le hm1 (by decide))
   obtain ⟨y, hy⟩ : ∃ y, y = x % 128 := ⟨_, rfl⟩
   obtain ⟨N, hN⟩ : ∃ N, N = m + 128 ^ 0 * (x % 128) := ⟨_, rfl⟩
   have hNlt : N < 128 ^ 0 * 128 := by
    have h6 : 128 ^ 0 * (x % 128) ≤ 128 ^ 0 * 127 := Nat.mul_le_mul_left _ (by omega)
    have h7 : m < 128 ^ 0 := HS.out.1
    omega
   have HN := Lib.hid hN
   rw [← hy] at hlow hxm hjn hN
   have hjN : bits .or .u64 (m : Int) ((y : Int)) = (N : Int) := by
    rw [hN]
    have h0 : m = 0 := by simpa using hm1
    subst h0
    simpa using hjn
   simp only [Nat.reducePow, Nat.reduceMul] at hNlt
   clear R5 F5 hsf HB D5 hd5 hN hjn hm1 hy
   cases bad5 with
   | true =>
     have HF := Lib.hid (numP_bad HR5.out HF5.out HSF.out (show bad = true ∨ rdNum bs = none from by
      by_cases hb : bad = true
      ·exact .inl hb
      ·have hb' : bad = false := by simpa using hb
       obtain ⟨_, h2⟩ := HD.out
       have h3 : ∀ p, rdB bs' ≠ some p := fun p hp => by have := h2 hb' ⟨p, hp⟩; cases this
       obtain ⟨h4, h5, h6 | h6, h7⟩ := HS.out
       ·cases bs' with
        | nil => rw [← h6.2]; exact .inr rfl
        | cons a t => exact absurd rfl (h3 (a, t))
       ·exact .inr h6.2))
     clear HD HS HN HF5 HR5
     go_wp2_with fail
     rw [Exit.noGoto_ret]
     go_ret
     exact HF.out
   | false =>
     obtain ⟨hbad, hrd⟩ := HD.out.1 rfl
     have hbs : bs' = x :: bs5 := by
      cases bs' with
      | nil => cases hrd
      | cons a t => injection hrd with h; injection h with h1 h2; rw [h1, h2]
     have HBS := Lib.hid hbs
     have HBAD := Lib.hid hbad
     clear hbs hbad hrd HD
     have hge : ¬ 4294967296 ≤ N := by omega
     have hg : decide (4294967296 ≤ (N : Int)) = false := by simp; omega
     by_cases h128 : x < 128
     ·have hl : decide ((x : Int) < 128) = true := by simp; omega
      have HF := Lib.hid (numP_good (v := N) (by omega) HR5.out HF5.out HSF.out (by rw [HS.out.done HBS.out (by omega) (by omega) (by rw [← HN.out]; omega) h128, ← HN.out]))
      have HBD := Lib.hid HBAD.out
      clear HS HN HF5 HR5 HBS
      go_wp2_with fail
      try rw [Exit.noGoto_ret]
      go_ret
      have hw : (N : Int) % 4294967296 = (N : Int) := by omega
      subst_vars
      first | exact HF.out | (rw [HBAD.out]; exact HF.out)
     ·have hl : decide ((x : Int) < 128) = false := by simp; omega
      have HNX := Lib.hid (HS.out.next HBAD.out HBS.out (by omega) h128)
      clear HS HBS
      go_wp2_with fail
      go_roundw
      case rel => exact ⟨0 + 1, N, c5, A5, bs5, by go_num, rfl, by omega, by rw [HN.out]; exact HNX.out, by rw [HBAD.out]; exact HR5.out, HF5.out⟩
      case measure => simp [intOf]
  ·go_wp2_with fail
   refine HB.out.mono ?_
   rintro e w5 ⟨x, A5, c5, bs5, bad5, rfl, hx, R5, F5, D5, d5, hd5⟩
   have HR5 := Lib.hid R5
   have HF5 := Lib.hid (HF.out.trans F5)
   have k1 := R5.box.cell 1
   have z1 := R5.box.frozen 1
   have hsf : ∃ d, bs = d ++ bs5 := by obtain ⟨_, _, _, d, h4⟩ := HS.out; exact ⟨d ++ d5, by rw [h4, hd5, List.append_assoc]⟩
   have HSF := Lib.hid hsf
   have HD := Lib.hid D5
   have hxm : x % 128 < 128 := Nat.mod_lt _ (by omega)
   have hlow := u8_low7 x hx
   have hjn := u64_join 7 m (x % 128) hm1 (by omega) (Nat.lt_of_lt_of_le hm1 (by decide))
   obtain ⟨y, hy⟩ : ∃ y, y = x % 128 := ⟨_, rfl⟩
   obtain ⟨N, hN⟩ : ∃ N, N = m + 128 ^ 1 * (x % 128) := ⟨_, rfl⟩
   have hNlt : N < 128 ^ 1 * 128 := by
    have h6 : 128 ^ 1 * (x % 128) ≤ 128 ^ 1 * 127 := Nat.mul_le_mul_left _ (by omega)
    have h7 : m < 128 ^ 1 := HS.out.1
    omega
   have HN := Lib.hid hN
   rw [← hy] at hlow hxm hjn hN
   have hjN : bits .or .u64 (m : Int) ((y : Int) * 128) = (N : Int) := by
    rw [hN]
    simpa [Nat.mul_comm] using hjn
   simp only [Nat.reducePow, Nat.reduceMul] at hNlt
   clear R5 F5 hsf HB D5 hd5 hN hjn hm1 hy
   cases bad5 with
   | true =>
     have HF := Lib.hid (numP_bad HR5.out HF5.out HSF.out (show bad = true ∨ rdNum bs = none from by
      by_cases hb : bad = true
      ·exact .inl hb
      ·have hb' : bad = false := by simpa using hb
       obtain ⟨_, h2⟩ := HD.out
       have h3 : ∀ p, rdB bs' ≠ some p := fun p hp => by have := h2 hb' ⟨p, hp⟩; cases this
       obtain ⟨h4, h5, h6 | h6, h7⟩ := HS.out
       ·cases bs' with
        | nil => rw [← h6.2]; exact .inr rfl
        | cons a t => exact absurd rfl (h3 (a, t))
       ·exact .inr h6.2))
     clear HD HS HN HF5 HR5
     go_wp2_with fail
     rw [Exit.noGoto_ret]
     go_ret
     exact HF.out
   | false =>
     obtain ⟨hbad, hrd⟩ := HD.out.1 rfl
     have hbs : bs' = x :: bs5 := by
      cases bs' with
      | nil => cases hrd
      | cons a t => injection hrd with h; injection h with h1 h2; rw [h1, h2]
     have HBS := Lib.hid hbs
     have HBAD := Lib.hid hbad
     clear hbs hbad hrd HD
     by_cases hx0 : x = 0
     ·have hz : ((x : Int) == 0) = true := by simp; omega
      have HF := Lib.hid (numP_bad HR5.out HF5.out HSF.out (show bad = true ∨ rdNum bs = none from .inr (HS.out.stop HBS.out (.inr (.inl ⟨by omega, hx0⟩)) hx)))
      clear HS HN HF5 HR5 HBS
      clear hx0
      go_wp2_with fail
      rw [Exit.noGoto_ret]
      go_ret
      exact HF.out
     ·have hz : ((x : Int) == 0) = false := by simp; omega
      have hge : ¬ 4294967296 ≤ N := by omega
      have hg : decide (4294967296 ≤ (N : Int)) = false := by simp; omega
      by_cases h128 : x < 128
      ·have hl : decide ((x : Int) < 128) = true := by simp; omega
       have HF := Lib.hid (numP_good (v := N) (by omega) HR5.out HF5.out HSF.out (by rw [HS.out.done HBS.out (by omega) (by omega) (by rw [← HN.out]; omega) h128, ← HN.out]))
       have HBD := Lib.hid HBAD.out
       clear HS HN HF5 HR5 HBS
       go_wp2_with fail
       try rw [Exit.noGoto_ret]
       go_ret
       have hw : (N : Int) % 4294967296 = (N : Int) := by omega
       subst_vars
       first | exact HF.out | (rw [HBAD.out]; exact HF.out)
      ·have hl : decide ((x : Int) < 128) = false := by simp; omega
       have HNX := Lib.hid (HS.out.next HBAD.out HBS.out (by omega) h128)
       clear HS HBS
       go_wp2_with fail
       go_roundw
       case rel => exact ⟨1 + 1, N, c5, A5, bs5, by go_num, rfl, by omega, by rw [HN.out]; exact HNX.out, by rw [HBAD.out]; exact HR5.out, HF5.out⟩
       case measure => simp [intOf]
  ·go_wp2_with fail
   refine HB.out.mono ?_
   rintro e w5 ⟨x, A5, c5, bs5, bad5, rfl, hx, R5, F5, D5, d5, hd5⟩
   have HR5 := Lib.hid R5
   have HF5 := Lib.hid (HF.out.trans F5)
   have k1 := R5.box.cell 1
   have z1 := R5.box.frozen 1
   have hsf : ∃ d, bs = d ++ bs5 := by obtain ⟨_, _, _, d, h4⟩ := HS.out; exact ⟨d ++ d5, by rw [h4, hd5, List.append_assoc]⟩
   have HSF := Lib.hid hsf
   have HD := Lib.hid D5
   have hxm : x % 128 < 128 := Nat.mod_lt _ (by omega)
   have hlow := u8_low7 x hx
   have hjn := u64_join 14 m (x % 128) hm1 (by omega) (Nat.lt_of_lt_of_le hm1 (by decide))
   obtain ⟨y, hy⟩ : ∃ y, y = x % 128 := ⟨_, rfl⟩
   obtain ⟨N, hN⟩ : ∃ N, N = m + 128 ^ 2 * (x % 128) := ⟨_, rfl⟩
   have hNlt : N < 128 ^ 2 * 128 := by
    have h6 : 128 ^ 2 * (x % 128) ≤ 128 ^ 2 * 127 := Nat.mul_le_mul_left _ (by omega)
    have h7 : m < 128 ^ 2 := HS.out.1
    omega
   have HN := Lib.hid hN
   rw [← hy] at hlow hxm hjn hN
   have hjN : bits .or .u64 (m : Int) ((y : Int) * 16384) = (N : Int) := by
    rw [hN]
    simpa [Nat.mul_comm] using hjn
   simp only [Nat.reducePow, Nat.reduceMul] at hNlt
   clear R5 F5 hsf HB D5 hd5 hN hjn hm1 hy
   cases bad5 with
   | true =>
     have HF := Lib.hid (numP_bad HR5.out HF5.out HSF.out (show bad = true ∨ rdNum bs = none from by
      by_cases hb : bad = true
      ·exact .inl hb
      ·have hb' : bad = false := by simpa using hb
       obtain ⟨_, h2⟩ := HD.out
       have h3 : ∀ p, rdB bs' ≠ some p := fun p hp => by have := h2 hb' ⟨p, hp⟩; cases this
       obtain ⟨h4, h5, h6 | h6, h7⟩ := HS.out
       ·cases bs' with
        | nil => rw [← h6.2]; exact .inr rfl
        | cons a t => exact absurd rfl (h3 (a, t))
       ·exact .inr h6.2))
     clear HD HS HN HF5 HR5
     go_wp2_with fail
     rw [Exit.noGoto_ret]
     go_ret
     exact HF.out
   | false =>
     obtain ⟨hbad, hrd⟩ := HD.out.1 rfl
     have hbs : bs' = x :: bs5 := by
      cases bs' with
      | nil => cases hrd
      | cons a t => injection hrd with h; injection h with h1 h2; rw [h1, h2]
     have HBS := Lib.hid hbs
     have HBAD := Lib.hid hbad
     clear hbs hbad hrd HD
     by_cases hx0 : x = 0
     ·have hz : ((x : Int) == 0) = true := by simp; omega
      have HF := Lib.hid (numP_bad HR5.out HF5.out HSF.out (show bad = true ∨ rdNum bs = none from .inr (HS.out.stop HBS.out (.inr (.inl ⟨by omega, hx0⟩)) hx)))
      clear HS HN HF5 HR5 HBS
      clear hx0
      go_wp2_with fail
      rw [Exit.noGoto_ret]
      go_ret
      exact HF.out
     ·have hz : ((x : Int) == 0) = false := by simp; omega
      have hge : ¬ 4294967296 ≤ N := by omega
      have hg : decide (4294967296 ≤ (N : Int)) = false := by simp; omega
      by_cases h128 : x < 128
      ·have hl : decide ((x : Int) < 128) = true := by simp; omega
       have HF := Lib.hid (numP_good (v := N) (by omega) HR5.out HF5.out HSF.out (by rw [HS.out.done HBS.out (by omega) (by omega) (by rw [← HN.out]; omega) h128, ← HN.out]))
       have HBD := Lib.hid HBAD.out
       clear HS HN HF5 HR5 HBS
       go_wp2_with fail
       try rw [Exit.noGoto_ret]
       go_ret
       have hw : (N : Int) % 4294967296 = (N : Int) := by omega
       subst_vars
       first | exact HF.out | (rw [HBAD.out]; exact HF.out)
      ·have hl : decide ((x : Int) < 128) = false := by simp; omega
       have HNX := Lib.hid (HS.out.next HBAD.out HBS.out (by omega) h128)
       clear HS HBS
       go_wp2_with fail
       go_roundw
       case rel => exact ⟨2 + 1, N, c5, A5, bs5, by go_num, rfl, by omega, by rw [HN.out]; exact HNX.out, by rw [HBAD.out]; exact HR5.out, HF5.out⟩
       case measure => simp [intOf]
  ·go_wp2_with fail
   refine HB.out.mono ?_
   rintro e w5 ⟨x, A5, c5, bs5, bad5, rfl, hx, R5, F5, D5, d5, hd5⟩
   have HR5 := Lib.hid R5
   have HF5 := Lib.hid (HF.out.trans F5)
   have k1 := R5.box.cell 1
   have z1 := R5.box.frozen 1
   have hsf : ∃ d, bs = d ++ bs5 := by obtain ⟨_, _, _, d, h4⟩ := HS.out; exact ⟨d ++ d5, by rw [h4, hd5, List.append_assoc]⟩
   have HSF := Lib.hid hsf
   have HD := Lib.hid D5
   have hxm : x % 128 < 128 := Nat.mod_lt _ (by omega)
   have hlow := u8_low7 x hx
   have hjn := u64_join 21 m (x % 128) hm1 (by omega) (Nat.lt_of_lt_of_le hm1 (by decide))
   obtain ⟨y, hy⟩ : ∃ y, y = x % 128 := ⟨_, rfl⟩
   obtain ⟨N, hN⟩ : ∃ N, N = m + 128 ^ 3 * (x % 128) := ⟨_, rfl⟩
   have hNlt : N < 128 ^ 3 * 128 := by
    have h6 : 128 ^ 3 * (x % 128) ≤ 128 ^ 3 * 127 := Nat.mul_le_mul_left _ (by omega)
    have h7 : m < 128 ^ 3 := HS.out.1
    omega
   have HN := Lib.hid hN
   rw [← hy] at hlow hxm hjn hN
   have hjN : bits .or .u64 (m : Int) ((y : Int) * 2097152) = (N : Int) := by
    rw [hN]
    simpa [Nat.mul_comm] using hjn
   simp only [Nat.reducePow, Nat.reduceMul] at hNlt
   clear R5 F5 hsf HB D5 hd5 hN hjn hm1 hy
   cases bad5 with
   | true =>
     have HF := Lib.hid (numP_bad HR5.out HF5.out HSF.out (show bad = true ∨ rdNum bs = none from by
      by_cases hb : bad = true
      ·exact .inl hb
      ·have hb' : bad = false := by simpa using hb
       obtain ⟨_, h2⟩ := HD.out
       have h3 : ∀ p, rdB bs' ≠ some p := fun p hp => by have := h2 hb' ⟨p, hp⟩; cases this
       obtain ⟨h4, h5, h6 | h6, h7⟩ := HS.out
       ·cases bs' with
        | nil => rw [← h6.2]; exact .inr rfl
        | cons a t => exact absurd rfl (h3 (a, t))
       ·exact .inr h6.2))
     clear HD HS HN HF5 HR5
     go_wp2_with fail
     rw [Exit.noGoto_ret]
     go_ret
     exact HF.out
   | false =>
     obtain ⟨hbad, hrd⟩ := HD.out.1 rfl
     have hbs : bs' = x :: bs5 := by
      cases bs' with
      | nil => cases hrd
      | cons a t => injection hrd with h; injection h with h1 h2; rw [h1, h2]
     have HBS := Lib.hid hbs
     have HBAD := Lib.hid hbad
     clear hbs hbad hrd HD
     by_cases hx0 : x = 0
     ·have hz : ((x : Int) == 0) = true := by simp; omega
      have HF := Lib.hid (numP_bad HR5.out HF5.out HSF.out (show bad = true ∨ rdNum bs = none from .inr (HS.out.stop HBS.out (.inr (.inl ⟨by omega, hx0⟩)) hx)))
      clear HS HN HF5 HR5 HBS
      clear hx0
      go_wp2_with fail
      rw [Exit.noGoto_ret]
      go_ret
      exact HF.out
     ·have hz : ((x : Int) == 0) = false := by simp; omega
      have hge : ¬ 4294967296 ≤ N := by omega
      have hg : decide (4294967296 ≤ (N : Int)) = false := by simp; omega
      by_cases h128 : x < 128
      ·have hl : decide ((x : Int) < 128) = true := by simp; omega
       have HF := Lib.hid (numP_good (v := N) (by omega) HR5.out HF5.out HSF.out (by rw [HS.out.done HBS.out (by omega) (by omega) (by rw [← HN.out]; omega) h128, ← HN.out]))
       have HBD := Lib.hid HBAD.out
       clear HS HN HF5 HR5 HBS
       go_wp2_with fail
       try rw [Exit.noGoto_ret]
       go_ret
       have hw : (N : Int) % 4294967296 = (N : Int) := by omega
       subst_vars
       first | exact HF.out | (rw [HBAD.out]; exact HF.out)
      ·have hl : decide ((x : Int) < 128) = false := by simp; omega
       have HNX := Lib.hid (HS.out.next HBAD.out HBS.out (by omega) h128)
       clear HS HBS
       go_wp2_with fail
       go_roundw
       case rel => exact ⟨3 + 1, N, c5, A5, bs5, by go_num, rfl, by omega, by rw [HN.out]; exact HNX.out, by rw [HBAD.out]; exact HR5.out, HF5.out⟩
       case measure => simp [intOf]
  ·go_wp2_with fail
   refine HB.out.mono ?_
   rintro e w5 ⟨x, A5, c5, bs5, bad5, rfl, hx, R5, F5, D5, d5, hd5⟩
   have HR5 := Lib.hid R5
   have HF5 := Lib.hid (HF.out.trans F5)
   have k1 := R5.box.cell 1
   have z1 := R5.box.frozen 1
   have hsf : ∃ d, bs = d ++ bs5 := by obtain ⟨_, _, _, d, h4⟩ := HS.out; exact ⟨d ++ d5, by rw [h4, hd5, List.append_assoc]⟩
   have HSF := Lib.hid hsf
   have HD := Lib.hid D5
   have hxm : x % 128 < 128 := Nat.mod_lt _ (by omega)
   have hlow := u8_low7 x hx
   have hjn := u64_join 28 m (x % 128) hm1 (by omega) (Nat.lt_of_lt_of_le hm1 (by decide))
   obtain ⟨y, hy⟩ : ∃ y, y = x % 128 := ⟨_, rfl⟩
   obtain ⟨N, hN⟩ : ∃ N, N = m + 128 ^ 4 * (x % 128) := ⟨_, rfl⟩
   have hNlt : N < 128 ^ 4 * 128 := by
    have h6 : 128 ^ 4 * (x % 128) ≤ 128 ^ 4 * 127 := Nat.mul_le_mul_left _ (by omega)
    have h7 : m < 128 ^ 4 := HS.out.1
    omega
   have HN := Lib.hid hN
   rw [← hy] at hlow hxm hjn hN
   have hjN : bits .or .u64 (m : Int) ((y : Int) * 268435456) = (N : Int) := by
    rw [hN]
    simpa [Nat.mul_comm] using hjn
   simp only [Nat.reducePow, Nat.reduceMul] at hNlt
   clear R5 F5 hsf HB D5 hd5 hN hjn hm1 hy
   cases bad5 with
   | true =>
     have HF := Lib.hid (numP_bad HR5.out HF5.out HSF.out (show bad = true ∨ rdNum bs = none from by
      by_cases hb : bad = true
      ·exact .inl hb
      ·have hb' : bad = false := by simpa using hb
       obtain ⟨_, h2⟩ := HD.out
       have h3 : ∀ p, rdB bs' ≠ some p := fun p hp => by have := h2 hb' ⟨p, hp⟩; cases this
       obtain ⟨h4, h5, h6 | h6, h7⟩ := HS.out
       ·cases bs' with
        | nil => rw [← h6.2]; exact .inr rfl
        | cons a t => exact absurd rfl (h3 (a, t))
       ·exact .inr h6.2))
     clear HD HS HN HF5 HR5
     go_wp2_with fail
     rw [Exit.noGoto_ret]
     go_ret
     exact HF.out
   | false =>
     obtain ⟨hbad, hrd⟩ := HD.out.1 rfl
     have hbs : bs' = x :: bs5 := by
      cases bs' with
      | nil => cases hrd
      | cons a t => injection hrd with h; injection h with h1 h2; rw [h1, h2]
     have HBS := Lib.hid hbs
     have HBAD := Lib.hid hbad
     clear hbs hbad hrd HD
     by_cases hx0 : x = 0
     ·have hz : ((x : Int) == 0) = true := by simp; omega
      have HF := Lib.hid (numP_bad HR5.out HF5.out HSF.out (show bad = true ∨ rdNum bs = none from .inr (HS.out.stop HBS.out (.inr (.inl ⟨by omega, hx0⟩)) hx)))
      clear HS HN HF5 HR5 HBS
      clear hx0
      go_wp2_with fail
      rw [Exit.noGoto_ret]
      go_ret
      exact HF.out
     ·have hz : ((x : Int) == 0) = false := by simp; omega
      by_cases hge : 4294967296 ≤ N
      ·have hg : decide (4294967296 ≤ (N : Int)) = true := by simp; omega
       have HF := Lib.hid (numP_bad HR5.out HF5.out HSF.out (show bad = true ∨ rdNum bs = none from .inr (HS.out.stop HBS.out (.inr (.inr (by rw [← HN.out]; exact hge))) hx)))
       clear HS HN HF5 HR5 HBS
       go_wp2_with fail
       rw [Exit.noGoto_ret]
       go_ret
       exact HF.out
      ·have hg : decide (4294967296 ≤ (N : Int)) = false := by simp; omega
       by_cases h128 : x < 128
       ·have hl : decide ((x : Int) < 128) = true := by simp; omega
        have HF := Lib.hid (numP_good (v := N) (by omega) HR5.out HF5.out HSF.out (by rw [HS.out.done HBS.out (by omega) (by omega) (by rw [← HN.out]; omega) h128, ← HN.out]))
        have HBD := Lib.hid HBAD.out
        clear HS HN HF5 HR5 HBS
        go_wp2_with fail
        try rw [Exit.noGoto_ret]
        go_ret
        have hw : (N : Int) % 4294967296 = (N : Int) := by omega
        subst_vars
        first | exact HF.out | (rw [HBAD.out]; exact HF.out)
       ·have hl : decide ((x : Int) < 128) = false := by simp; omega
        have HNX := Lib.hid (HS.out.next HBAD.out HBS.out (by omega) h128)
        clear HS HBS
        go_wp2_with fail
        go_roundw
        case rel => exact ⟨4 + 1, N, c5, A5, bs5, by go_num, rfl, by omega, by rw [HN.out]; exact HNX.out, by rw [HBAD.out]; exact HR5.out, HF5.out⟩
        case measure => simp [intOf]
  ·go_wp2_with fail
   refine HB.out.mono ?_
   rintro e w5 ⟨x, A5, c5, bs5, bad5, rfl, hx, R5, F5, D5, d5, hd5⟩
   have HR5 := Lib.hid R5
   have HF5 := Lib.hid (HF.out.trans F5)
   have k1 := R5.box.cell 1
   have z1 := R5.box.frozen 1
   have hsf : ∃ d, bs = d ++ bs5 := by obtain ⟨_, _, _, d, h4⟩ := HS.out; exact ⟨d ++ d5, by rw [h4, hd5, List.append_assoc]⟩
   have HSF := Lib.hid hsf
   have HD := Lib.hid D5
   have hxm : x % 128 < 128 := Nat.mod_lt _ (by omega)
   have hlow := u8_low7 x hx
   have hjn := u64_join 35 m (x % 128) hm1 (by omega) (Nat.lt_of_lt_of_le hm1 (by decide))
   obtain ⟨y, hy⟩ : ∃ y, y = x % 128 := ⟨_, rfl⟩
   obtain ⟨N, hN⟩ : ∃ N, N = m + 128 ^ 5 * (x % 128) := ⟨_, rfl⟩
   have hNlt : N < 128 ^ 5 * 128 := by
    have h6 : 128 ^ 5 * (x % 128) ≤ 128 ^ 5 * 127 := Nat.mul_le_mul_left _ (by omega)
    have h7 : m < 128 ^ 5 := HS.out.1
    omega
   have HN := Lib.hid hN
   rw [← hy] at hlow hxm hjn hN
   have hjN : bits .or .u64 (m : Int) ((y : Int) * 34359738368) = (N : Int) := by
    rw [hN]
    simpa [Nat.mul_comm] using hjn
   simp only [Nat.reducePow, Nat.reduceMul] at hNlt
   clear R5 F5 hsf HB D5 hd5 hN hjn hm1 hy
   cases bad5 with
   | true =>
     have HF := Lib.hid (numP_bad HR5.out HF5.out HSF.out (show bad = true ∨ rdNum bs = none from by
      by_cases hb : bad = true
      ·exact .inl hb
      ·have hb' : bad = false := by simpa using hb
       obtain ⟨_, h2⟩ := HD.out
       have h3 : ∀ p, rdB bs' ≠ some p := fun p hp => by have := h2 hb' ⟨p, hp⟩; cases this
       obtain ⟨h4, h5, h6 | h6, h7⟩ := HS.out
       ·cases bs' with
        | nil => rw [← h6.2]; exact .inr rfl
        | cons a t => exact absurd rfl (h3 (a, t))
       ·exact .inr h6.2))
     clear HD HS HN HF5 HR5
     go_wp2_with fail
     rw [Exit.noGoto_ret]
     go_ret
     exact HF.out
   | false =>
     obtain ⟨hbad, hrd⟩ := HD.out.1 rfl
     have hbs : bs' = x :: bs5 := by
      cases bs' with
      | nil => cases hrd
      | cons a t => injection hrd with h; injection h with h1 h2; rw [h1, h2]
     have HBS := Lib.hid hbs
     have HBAD := Lib.hid hbad
     clear hbs hbad hrd HD
     have HF := Lib.hid (numP_bad HR5.out HF5.out HSF.out (show bad = true ∨ rdNum bs = none from .inr (HS.out.stop HBS.out (.inl rfl) hx)))
     clear HS HN HF5 HR5 HBS
     go_wp2_with fail
     rw [Exit.noGoto_ret]
     go_ret
     exact HF.out
end
section
open Go.RowKit
attribute [local go_sem] Oper.semAt_some
def BytR (L rg : Nat) (A : Option Addr) (c : Nat) (bs : List Nat) (bad : Bool) (n : Nat) (w : World) (e : Ending) (w' : World) : Prop :=
 Fr1 rg w w' ∧ ((n ≤ bs.length ∧ e = .returned (.slice (tailA A c 0) n c) ∧ RdAt w' L rg (tailA A c n) (c - n) (bs.drop n) bad) ∨ (bs.length < n ∧ e = .returned (.slice none 0 0) ∧ RdAt w' L rg A c bs true))
set_option maxRecDepth 100000 in
theorem rbytesI_any {w : World} {L rg c : Nat} {A : Option Addr} {bs : List Nat} {bad : Bool} (R : RdAt w L rg A c bs bad) (hn : bs.length ≤ 9000000) (n : Nat) (hn63 : n ≤ 9000000000) :
 Calls Tryz.prog 91 #[.pointer (some ⟨rg, 0, none⟩), .int .i64 n] w (BytR L rg A c bs bad n w) := by
 have c0 := R.box.cell 0
 have c1 := R.box.cell 1
 have z0 := R.box.frozen 0
 have z1 := R.box.frozen 1
 have hc := R.cap
 by_cases h : bs.length < n
 ·have hd : decide ((bs.length : Int) < (n : Int)) = true := by simp; omega
  have HF := Lib.hid (show BytR L rg A c bs bad n w (.returned (.slice none 0 0)) (w.setCell ⟨rg, 1, none⟩ (.bool true)) from
   ⟨Fr1.set _ _ _ _, .inr ⟨h, rfl, ⟨R.box.set_ 1 _, R.cap, R.rd.below (Below.setCell (Below.refl _ _) (p := ⟨rg, 1, none⟩) R.far _), R.far, R.b8⟩⟩⟩)
  clear R
  go_enter Tryz.func91, Tryz.ntmps91
  go_wp2_with fail
  go_ret
  exact HF.out
 ·have hd : decide ((bs.length : Int) < (n : Int)) = false := by simp; omega
  have hln : (bs.drop n).length = bs.length - n := by simp
  have HF := Lib.hid (show ∀ A1 A2 k2 c2, tailA A c 0 = A1 → tailA A c n = A2 → bs.length - n = k2 → c - n = c2 → BytR L rg A c bs bad n w (.returned (.slice A1 n c)) (w.setCell ⟨rg, 0, none⟩ (.slice A2 k2 c2)) from by
   rintro A1 A2 k2 c2 rfl rfl rfl rfl
   refine ⟨Fr1.set _ _ _ _, .inl ⟨by omega, rfl, ⟨?_, by rw [hln]; omega, ?_, R.far, fun x hx => R.b8 x (List.mem_of_mem_drop hx)⟩⟩⟩
   ·rw [hln]; exact R.box.set_ 0 _
   ·rw [hln]; exact (reads_rest (k := n) R.rd R.cap (by omega)).below (Below.setCell (Below.refl _ _) (p := ⟨rg, 0, none⟩) R.far _))
  have hc1 : (n : Int) ≤ (c : Int) := by omega
  have hc2 : (n : Int) ≤ (bs.length : Int) := by omega
  clear R
  by_cases hcn : c = n
  ·subst hcn
   go_enter Tryz.func91, Tryz.ntmps91
   go_wp2_with fail
   all_goals go_ret
   all_goals refine HF.out _ _ _ _ ?_ ?_ ?_ ?_
   all_goals first | omega | (simp [tailA, Addr.add, *]; done) | (simp [tailA, Addr.add, *]; omega)
  ·have hcn' : n ≠ c := fun e => hcn e.symm
   go_enter Tryz.func91, Tryz.ntmps91
   go_wp2_with fail
   all_goals go_ret
   all_goals refine HF.out _ _ _ _ ?_ ?_ ?_ ?_
   all_goals first | omega | (simp [tailA, Addr.add, *]; done) | (simp [tailA, Addr.add, *]; omega)
end
section
open Go.RowKit
attribute [local go_sem] Oper.semAt_some
theorem okB_may {x : Hd} (h : x.spare < 4) : okB x = x.may := by unfold okB; rw [decide_eq_true h, Bool.and_true]
theorem okB_size {x : Hd} (h : 65535 < x.size) : okB x = false := by unfold okB Hd.may; rw [decide_eq_false (by omega)]; rfl
theorem okB_fmt {x : Hd} (h : 5 ≤ x.fmt) : okB x = false := by unfold okB Hd.may; rw [show decide (x.fmt ≤ 4) = false from decide_eq_false (by omega)]; simp
theorem okB_fmt0 {x : Hd} (h : x.fmt ≤ 0) : okB x = false := by unfold okB Hd.may; rw [show decide (1 ≤ x.fmt) = false from decide_eq_false (by omega)]; simp
theorem okB_spare {x : Hd} (h : 4 ≤ x.spare) : okB x = false := by unfold okB; rw [show decide (x.spare < 4) = false from decide_eq_false (by omega)]; simp
set_option maxHeartbeats 2000000 in
theorem may2_any (x : Hd) (h1 : x.size < 4294967296) (h2 : x.fmt < 16) (h3 : x.spare < 16) (h4 : x.cls < 4294967296) (h5 : x.ser < 4294967296) (w : World) (hs : Spares w) :
 Calls Tryz.prog 115 #[x.val] w fun e w' => e = .returned (.bool (okB x)) ∧ Below w.heap.size w w' := by
 by_cases ha : 65535 < x.size
 ·have HF := Lib.hid (okB_size ha)
  obtain ⟨n, t, s, c, r⟩ := x
  simp only at ha h1 h2 h3 h4 h5
  unfold Hd.val
  have hai : (65535 : Int) < (n : Int) := by omega
  go_enter Tryz.func115, Tryz.ntmps115
  go_wp2_with fail
  go_ret
  exact ⟨by rw [HF.out]; rfl, (Below.refl _ _).alloc (Nat.le_refl _) _⟩
 by_cases hb : 5 ≤ x.fmt
 ·have HF := Lib.hid (okB_fmt hb)
  obtain ⟨n, t, s, c, r⟩ := x
  simp only at ha hb h1 h2 h3 h4 h5
  unfold Hd.val
  go_enter Tryz.func115, Tryz.ntmps115
  go_wp2_with fail
  go_ret
  exact ⟨by rw [HF.out]; rfl, (Below.refl _ _).alloc (Nat.le_refl _) _⟩
 by_cases hc : 4 ≤ x.spare
 ·by_cases h0 : x.fmt ≤ 0
  ·have HF := Lib.hid (okB_fmt0 h0)
   obtain ⟨n, t, s, c, r⟩ := x
   simp only at ha hb hc h0 h1 h2 h3 h4 h5
   unfold Hd.val
   go_enter Tryz.func115, Tryz.ntmps115
   go_wp2_with fail
   go_ret
   exact ⟨by rw [HF.out]; rfl, (Below.refl _ _).alloc (Nat.le_refl _) _⟩
  ·have HF := Lib.hid (okB_spare hc)
   obtain ⟨n, t, s, c, r⟩ := x
   simp only at ha hb hc h0 h1 h2 h3 h4 h5
   have hci : (3 : Int) < (s : Int) := by omega
   unfold Hd.val
   go_enter Tryz.func115, Tryz.ntmps115
   go_wp2_with fail
   go_ret
   exact ⟨by rw [HF.out]; rfl, (Below.refl _ _).alloc (Nat.le_refl _) _⟩
 ·rw [okB_may (by omega)]
  exact may_any x ⟨by omega, by omega, by omega, h4, h5⟩ w hs
theorem PackNo_any (x : Hd) (h1 : x.size < 4294967296) (h2 : x.fmt < 16) (h3 : x.spare < 16) (h4 : x.cls < 4294967296) (h5 : x.ser < 4294967296) (hm : okB x = false) (w : World) (hs : Spares w) :
 Calls Tryz.prog 93 #[x.val] w fun e w' => e = .returned (.tuple #[.agg #[.int .u32 0, .int .u32 0, .int .u32 0], .int .i64 1]) ∧ Below w.heap.size w w' := by
 have hv : x.val = .agg #[.int .i64 x.size, .int .i64 x.fmt, .int .i64 x.spare, .int .u32 x.cls, .int .u32 x.ser] := rfl
 rw [hv]
 go_enter Tryz.func93, Tryz.ntmps93
 go_wp2_with fail
 rw [← hv]
 refine (may2_any x h1 h2 h3 h4 h5 _ (hs.below (((Below.refl _ _).alloc (Nat.le_refl _) _).alloc (by simp) _))).mono ?_
 rintro e w1 ⟨rfl, hb1⟩
 rw [hm]
 have hb : Below w.heap.size w w1 := (((Below.refl _ _).alloc (Nat.le_refl _) _).alloc (by simp) _).trans (hb1.mono (by simp; omega))
 have B2 := Blk.below (Blk.new (w.alloc _) _ _) hb1 (by simp)
 rw [World.size_alloc] at B2
 clear hb1
 obtain ⟨d0, d1, d2⟩ := B2.cells3
 have z2 := B2.fz
 have hz2 := B2.lt
 go_wp2_with fail
 have B3 := B2.setAll3 (.int .u32 0) (.int .u32 0) (.int .u32 0)
 obtain ⟨f0, f1, f2⟩ := B3.cells3
 refine bodyPost_ret (v := .tuple #[.agg #[.int .u32 0, .int .u32 0, .int .u32 0], .int .i64 1]) (by simp [results, Tryz.results93, go_sem, f0, f1, f2]) rfl ⟨rfl, ?_⟩
 exact ((hb.setCell (by simp) _).setCell (by simp) _).setCell (by simp) _
set_option maxHeartbeats 2000000 in
theorem rmay2_any (x : Hd) (h1 : x.size ≤ 65535) (h2 : x.fmt < 16) (h3 : x.spare < 16) (h4 : x.cls < 4294967296) (h5 : x.ser < 4294967296) (w : World) :
 Calls Tryz.prog 84 #[x.val] w fun e w' => e = .returned (.bool (okB x)) ∧ Below w.heap.size w w' := by
 by_cases hb : 5 ≤ x.fmt
 ·have HF := Lib.hid (okB_fmt hb)
  obtain ⟨n, t, s, c, r⟩ := x
  simp only at hb h1 h2 h3 h4 h5
  unfold Hd.val
  go_enter Tryz.func84, Tryz.ntmps84
  go_wp2_with fail
  go_ret
  exact ⟨by rw [HF.out]; rfl, (Below.refl _ _).alloc (Nat.le_refl _) _⟩
 by_cases hc : 4 ≤ x.spare
 ·by_cases h0 : x.fmt ≤ 0
  ·have HF := Lib.hid (okB_fmt0 h0)
   obtain ⟨n, t, s, c, r⟩ := x
   simp only at hb hc h0 h1 h2 h3 h4 h5
   unfold Hd.val
   go_enter Tryz.func84, Tryz.ntmps84
   go_wp2_with fail
   go_ret
   exact ⟨by rw [HF.out]; rfl, (Below.refl _ _).alloc (Nat.le_refl _) _⟩
  ·have HF := Lib.hid (okB_spare hc)
   obtain ⟨n, t, s, c, r⟩ := x
   simp only at hb hc h0 h1 h2 h3 h4 h5
   have hci : (3 : Int) < (s : Int) := by omega
   unfold Hd.val
   go_enter Tryz.func84, Tryz.ntmps84
   go_wp2_with fail
   go_ret
   exact ⟨by rw [HF.out]; rfl, (Below.refl _ _).alloc (Nat.le_refl _) _⟩
 ·rw [okB_may (by omega)]
  exact rmay_any x ⟨by omega, by omega, by omega, h4, h5⟩ w
end
end Go.Proofs.YthadjmhipckelaaGreatDoor
