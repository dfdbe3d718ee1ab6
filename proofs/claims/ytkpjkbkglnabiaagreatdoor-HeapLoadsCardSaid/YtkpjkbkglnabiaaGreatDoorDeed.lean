/- SetWord, SetClass, Root, SetRoot, Size, Top, Last, First, object, Next, At of the program's heap. -/
import Derived.Test.YtkpjkbkglnabiaaGreatDoorGet
set_option linter.unusedVariables false
namespace Go.Proofs.YtkpjkbkglnabiaaGreatDoor
open Go.RowKit

theorem oat_any (i : Nat) (h1 : 1 ≤ i) (h2 : i ≤ 2147483647) (w : World) : Calls Tryz.prog 101 #[.int .i64 i] w fun e w' => e = .returned (.tuple #[.int .u32 (2 * i : Nat), .int .i64 0]) ∧ w = w' := by
  have h3 : ((2 * i : Nat) : Int) = 2 * (i : Int) := by omega
  rw [h3]
  have h1' : (1 : Int) ≤ (i : Int) := by omega
  have h2' : (i : Int) ≤ 2147483647 := by omega
  clear h3
  go_enter Tryz.func101, Tryz.ntmps101
  go_wp2_with fail
  go_ret2
  exact ⟨by simp, rfl⟩

section
variable {w : World} {p : HP} {h : HM}

theorem size_any (H : HAt w p h) (f : h.Fit) : Calls Tryz.prog 49 #[ptr p.g] w fun e w' => e = .returned (.int .i64 h.size) ∧ w = w' := by
  have hm := Lib.hid (made_any H (by have := f.lo; omega) f.hi)
  have c3 := H.c3
  unfold ptr at hm ⊢
  go_enter Tryz.func49, Tryz.ntmps49
  go_wp2_with fail
  refine hm.out.mono ?_
  rintro e w' ⟨rfl, rfl⟩
  go_wp2_with fail
  go_ret
  exact ⟨by simp, rfl⟩
theorem top_any (H : HAt w p h) (f : h.Fit) : Calls Tryz.prog 9 #[ptr p.g] w fun e w' => e = .returned (.int .i64 h.words.length) ∧ w = w' := by
  have hm := Lib.hid (made_any H (by have := f.lo; omega) f.hi)
  have c3 := H.c0
  unfold ptr at hm ⊢
  go_enter Tryz.func9, Tryz.ntmps9
  go_wp2_with fail
  refine hm.out.mono ?_
  rintro e w' ⟨rfl, rfl⟩
  go_wp2_with fail
  go_ret
  exact ⟨by simp, rfl⟩
theorem last_any (H : HAt w p h) (f : h.Fit) : Calls Tryz.prog 50 #[ptr p.g] w fun e w' => e = .returned (.int .u32 h.last) ∧ w = w' := by
  have hm := Lib.hid (made_any H (by have := f.lo; omega) f.hi)
  have c3 := H.c4
  unfold ptr at hm ⊢
  go_enter Tryz.func50, Tryz.ntmps50
  go_wp2_with fail
  refine hm.out.mono ?_
  rintro e w' ⟨rfl, rfl⟩
  go_wp2_with fail
  go_ret
  exact ⟨by simp, rfl⟩

/-- The object at a word, 0 at the top. -/
def HM.objM (h : HM) (i : Nat) : Nat := if h.words.length ≤ i then 0 else 2 * i
theorem object_any (H : HAt w p h) (f : h.Fit) (i : Nat) (h1 : 1 ≤ i) (h2 : i ≤ 2147483647) : Calls Tryz.prog 112 #[ptr p.g, .int .i64 i] w fun e w' => e = .returned (.int .u32 (h.objM i)) ∧ w = w' := by
  have c0 := H.c0
  have hmx := f.room
  have hmx2 := f.hi
  have HO := Lib.hid (oat_any i h1 h2 w)
  unfold ptr
  by_cases hge : h.words.length ≤ i
  · have HF := Lib.hid (show h.objM i = 0 by simp [HM.objM, hge])
    have hd : decide ((h.words.length : Int) ≤ (i : Int)) = true := by simp; omega
    generalize h.words.length = len at *
    go_enter Tryz.func112, Tryz.ntmps112
    go_wp2_with fail
    go_ret
    exact ⟨by rw [HF.out]; rfl, rfl⟩
  · have HF := Lib.hid (show h.objM i = 2 * i by simp [HM.objM, hge])
    have hd : decide ((h.words.length : Int) ≤ (i : Int)) = false := by simp; omega
    generalize h.words.length = len at *
    go_enter Tryz.func112, Tryz.ntmps112
    go_wp2_with fail
    refine HO.out.mono ?_
    rintro e w' ⟨rfl, rfl⟩
    go_wp2_with fail
    go_ret
    exact ⟨by rw [HF.out]; rfl, rfl⟩
theorem first_any (H : HAt w p h) (f : h.Fit) : Calls Tryz.prog 85 #[ptr p.g] w fun e w' => e = .returned (.int .u32 (h.objM 1)) ∧ w = w' := by
  have hm := Lib.hid (made_any H (by have := f.lo; omega) f.hi)
  have HO := Lib.hid (object_any H f 1 (by omega) (by omega))
  unfold ptr at hm HO ⊢
  go_enter Tryz.func85, Tryz.ntmps85
  go_wp2_with fail
  refine hm.out.mono ?_
  rintro e w' ⟨rfl, rfl⟩
  go_wp2_with fail
  refine HO.out.mono ?_
  rintro e w' ⟨rfl, rfl⟩
  go_wp2_with fail
  go_ret
  exact ⟨by simp, rfl⟩

def HM.nextO (h : HM) (o : Nat) : Nat := h.objM (o / 2 + 3 + (h.hd (o / 2)).size)
def HM.nextV (h : HM) (o : Nat) : Value := if h.isB o then .tuple #[.int .u32 (h.nextO o), .int .i64 0] else .tuple #[.int .u32 0, .int .i64 3]
set_option maxHeartbeats 1000000 in
theorem next_any (H : HAt w p h) (f : h.Fit) (hh : h.Heads) (hs : Spares w) (o : Nat) (ho : o < 4294967296) :
    Calls Tryz.prog 90 #[ptr p.g, .int .u32 o] w fun e w' => e = .returned (h.nextV o) ∧ Below w.heap.size w w' := by
  have HI := Lib.hid (is_any H f o ho)
  cases hi : h.isB o
  · have HF := Lib.hid (show h.nextV o = .tuple #[.int .u32 0, .int .i64 3] by simp [HM.nextV, hi])
    rw [hi] at HI
    clear hi
    unfold ptr at HI ⊢
    go_enter Tryz.func90, Tryz.ntmps90
    go_wp2_with fail
    refine HI.out.mono ?_
    rintro e w' ⟨rfl, rfl⟩
    go_wp2_with fail
    go_ret2
    exact ⟨by rw [HF.out]; rfl, Below.refl _ _⟩
  · have hd := HM.isB_hd hh hi
    have HA := Lib.hid (at_any p.g o ho (HM.isB_obj hi) w)
    have HH := Lib.hid (header_any H f hs (o / 2) hd)
    have HX := Lib.hid (show (h.hd (o / 2)).val = .agg #[.int .i64 (h.hd (o / 2)).size, .int .i64 (h.hd (o / 2)).fmt, .int .i64 (h.hd (o / 2)).spare, .int .u32 (h.hd (o / 2)).cls, .int .u32 (h.hd (o / 2)).ser] from rfl)
    have HF := Lib.hid (show h.nextV o = .tuple #[.int .u32 (h.objM (o / 2 + 3 + (h.hd (o / 2)).size)), .int .i64 0] by simp [HM.nextV, hi, HM.nextO])
    have hsz := (HM.hd_fit f (o / 2)).size
    have hmx := f.room
    have hmx2 := f.hi
    have hd1 := hd.1
    have HO := Lib.hid (fun w' (hb : Below w.heap.size w w') => object_any (H.below hb) f (o / 2 + 3 + (h.hd (o / 2)).size) (by omega) (by omega))
    rw [hi] at HI
    clear hi hd hd1 hmx hmx2
    have hq : o / 2 < 2147483648 := by omega
    generalize o / 2 = q at *
    rw [HX.out] at HH
    clear HX
    generalize h.hd q = x at *
    generalize x.size = n at *
    have HO2 := Lib.hid (fun w' (hb : Below w.heap.size w w') => by
      have := HO.out w' hb
      rw [show ((q + 3 + n : Nat) : Int) = (q : Int) + 3 + (n : Int) from by omega] at this
      exact this)
    clear HO
    have hfld : ∀ (a b c d e : Value) (w : World), (Instr.field 101 (.agg #[a, b, c, d, e]) 0).run Tryz.prog w = .ok a w := fun a b c d e w => by kernel_rfl
    unfold ptr at HI HA HH HO2 ⊢
    go_enter Tryz.func90, Tryz.ntmps90
    go_wp2_with fail
    refine HI.out.mono ?_
    rintro e w' ⟨rfl, rfl⟩
    go_wp2_with fail
    refine HA.out.mono ?_
    rintro e w' ⟨rfl, rfl⟩
    go_wp2_with fail
    refine HH.out.mono ?_
    rintro e w1 ⟨rfl, hb1⟩
    go_wp2_with fail
    refine (HO2.out _ hb1).mono ?_
    rintro e w2 ⟨rfl, rfl⟩
    go_wp2_with fail
    go_ret2
    exact ⟨by rw [HF.out]; rfl, hb1⟩

/-- What SetClass does. -/
def HM.setClassE (h : HM) (o c : Nat) : Nat := if h.isB o && h.clsB c then 0 else 3
def HM.setClassH (h : HM) (o c : Nat) : HM := if h.setClassE o c = 0 then { h with words := h.words.set (o / 2 + 1) c } else h
set_option maxHeartbeats 1000000 in
theorem setClass_any (H : HAt w p h) (f : h.Fit) (hh : h.Heads) (o : Nat) (ho : o < 4294967296) (c : Nat) (hc : c < 4294967296) :
    Calls Tryz.prog 44 #[ptr p.g, .int .u32 o, .int .u32 c] w (Deeds p (h.setClassH o c) (h.setClassE o c) w) := by
  have HI := Lib.hid (is_any H f o ho)
  have HC := Lib.hid (class_any H f c hc)
  cases hi : h.isB o
  · have HF := Lib.hid (show h.setClassE o c = 3 ∧ h.setClassH o c = h by simp [HM.setClassE, HM.setClassH, hi])
    rw [hi] at HI
    clear hi
    unfold ptr at HI ⊢
    go_enter Tryz.func44, Tryz.ntmps44
    go_wp2_with fail
    refine HI.out.mono ?_
    rintro e w' ⟨rfl, rfl⟩
    go_wp2_with fail
    go_ret
    exact ⟨by rw [HF.out.1]; rfl, by rw [HF.out.2]; exact H, Step.refl _ _⟩
  · rw [hi] at HI
    cases hcl : h.clsB c
    · have HF := Lib.hid (show h.setClassE o c = 3 ∧ h.setClassH o c = h by simp [HM.setClassE, HM.setClassH, hi, hcl])
      rw [hcl] at HC
      clear hi hcl
      unfold ptr at HI HC ⊢
      go_enter Tryz.func44, Tryz.ntmps44
      go_wp2_with fail
      refine HI.out.mono ?_
      rintro e w' ⟨rfl, rfl⟩
      go_wp2_with fail
      refine HC.out.mono ?_
      rintro e w' ⟨rfl, rfl⟩
      go_wp2_with fail
      go_ret
      exact ⟨by rw [HF.out.1]; rfl, by rw [HF.out.2]; exact H, Step.refl _ _⟩
    · have HF := Lib.hid (show h.setClassE o c = 0 ∧ h.setClassH o c = { h with words := h.words.set (o / 2 + 1) c } by simp [HM.setClassE, HM.setClassH, hi, hcl])
      rw [hcl] at HC
      have hd := (HM.isB_hd hh hi).1
      have HA := Lib.hid (fun w => at_any p.g o ho (HM.isB_obj hi) w)
      have c0 := H.c0
      have hk : o / 2 + 1 < h.words.length := by omega
      have cv : w.cell? ⟨p.gw, o / 2 + 1, none⟩ = some (.int .u32 ((h.words.getD (o / 2 + 1) 0 : Nat) : Int)) := H.word hk
      have cf : w.frozen? ⟨p.gw, o / 2 + 1, none⟩ = false := H.2.1.frozen _
      have HS := Lib.hid (H.setWord (o / 2 + 1) c)
      have hmx := f.room
      have hmx2 := f.hi
      clear hi hcl hd
      generalize h.words.getD (o / 2 + 1) 0 = old at *
      generalize ({ h with words := h.words.set (o / 2 + 1) c } : HM) = h2 at *
      have hq : o / 2 < 2147483648 := by omega
      generalize o / 2 = q at *
      generalize h.words.length = len at *
      have a1 : IntKind.i64.wrap ((q : Int) + 1) = (q : Int) + 1 := IntWalk.i64_in _ (by omega)
      have a2 : ((q : Int) + 1).toNat = q + 1 := by omega
      have a3 : (0 : Int) ≤ (q : Int) + 1 := by omega
      have a4 : (q : Int) + 1 < (len : Int) := by omega
      unfold ptr at HI HC HA ⊢
      go_enter Tryz.func44, Tryz.ntmps44
      go_wp2_with fail
      refine HI.out.mono ?_
      rintro e w' ⟨rfl, rfl⟩
      go_wp2_with fail
      refine HC.out.mono ?_
      rintro e w' ⟨rfl, rfl⟩
      go_wp2_with fail
      go_region_with (first | (go_at_call 64; refine (HA.out _).mono ?_; rintro e w' ⟨rfl, rfl⟩))
      all_goals
        go_wp2_with fail
        go_ret
        exact ⟨by rw [HF.out.1]; rfl, by rw [HF.out.2]; exact HS.out, ((Step.refl _ _).setCell (.inl (.inr (.inl rfl))) _).drew⟩

def rootOk (i : Int) : Bool := decide (0 ≤ i) && decide (i < 64)
def HM.rootV (h : HM) (i : Int) : Value := .tuple (if rootOk i then #[.int .u32 (h.roots.getD i.toNat 0 : Nat), .int .i64 0] else #[.int .u32 0, .int .i64 1])
theorem root_any (H : HAt w p h) (f : h.Fit) (i : Int) : Calls Tryz.prog 93 #[ptr p.g, .int .i64 i] w fun e w' => e = .returned (h.rootV i) ∧ w = w' := by
  have hm := Lib.hid (made_any H (by have := f.lo; omega) f.hi)
  have c2 := H.c2
  rw [f.roots] at c2
  unfold ptr at hm ⊢
  by_cases h0 : i < 0
  · have HF := Lib.hid (show h.rootV i = .tuple #[.int .u32 0, .int .i64 1] by simp [HM.rootV, rootOk]; omega)
    have hd : decide (i < 0) = true := by simpa using h0
    go_enter Tryz.func93, Tryz.ntmps93
    go_wp2_with fail
    refine hm.out.mono ?_
    rintro e w' ⟨rfl, rfl⟩
    go_wp2_with fail
    go_ret2
    exact ⟨by rw [HF.out]; rfl, rfl⟩
  · have hd : decide (i < 0) = false := by simpa using h0
    by_cases h1 : 64 ≤ i
    · have HF := Lib.hid (show h.rootV i = .tuple #[.int .u32 0, .int .i64 1] by simp [HM.rootV, rootOk]; omega)
      have hd1 : decide (64 ≤ i) = true := by simpa using h1
      go_enter Tryz.func93, Tryz.ntmps93
      go_wp2_with fail
      refine hm.out.mono ?_
      rintro e w' ⟨rfl, rfl⟩
      go_wp2_with fail
      go_ret2
      exact ⟨by rw [HF.out]; rfl, rfl⟩
    · have hd1 : decide (64 ≤ i) = false := by simpa using h1
      obtain ⟨k, rfl⟩ := Int.eq_ofNat_of_zero_le (by omega : 0 ≤ i)
      have HF := Lib.hid (show h.rootV k = .tuple #[.int .u32 (h.roots.getD k 0 : Nat), .int .i64 0] by
        unfold HM.rootV rootOk
        rw [if_pos (by simp; omega)]
        simp)
      have hcell := H.root (i := k) (by rw [f.roots]; omega)
      generalize h.roots.getD k 0 = v at *
      have h1' : (k : Int) < 64 := by omega
      go_enter Tryz.func93, Tryz.ntmps93
      go_wp2_with fail
      refine hm.out.mono ?_
      rintro e w' ⟨rfl, rfl⟩
      go_wp2_with fail
      go_ret2
      exact ⟨by rw [HF.out]; rfl, rfl⟩

def HM.setRootE (h : HM) (i : Int) (v : Nat) : Nat := if rootOk i then (if h.valB v then 0 else 3) else 1
def HM.setRootH (h : HM) (i : Int) (v : Nat) : HM := if h.setRootE i v = 0 then { h with roots := h.roots.set i.toNat v } else h
set_option maxHeartbeats 1000000 in
theorem setRoot_any (H : HAt w p h) (f : h.Fit) (i : Int) (v : Nat) (hv : v < 4294967296) : Calls Tryz.prog 25 #[ptr p.g, .int .i64 i, .int .u32 v] w (Deeds p (h.setRootH i v) (h.setRootE i v) w) := by
  have hm := Lib.hid (made_any H (by have := f.lo; omega) f.hi)
  have c2 := H.c2
  rw [f.roots] at c2
  have HVC := Lib.hid (value_any H f v hv)
  unfold ptr at hm HVC ⊢
  by_cases h0 : i < 0
  · have HF := Lib.hid (show h.setRootE i v = 1 ∧ h.setRootH i v = h by
      have e : rootOk i = false := by simp [rootOk]; omega
      simp [HM.setRootE, HM.setRootH, e])
    have hd : decide (i < 0) = true := by simpa using h0
    go_enter Tryz.func25, Tryz.ntmps25
    go_wp2_with fail
    refine hm.out.mono ?_
    rintro e w' ⟨rfl, rfl⟩
    go_wp2_with fail
    go_ret
    exact ⟨by rw [HF.out.1]; rfl, by rw [HF.out.2]; exact H, Step.refl _ _⟩
  · have hd : decide (i < 0) = false := by simpa using h0
    by_cases h1 : 64 ≤ i
    · have HF := Lib.hid (show h.setRootE i v = 1 ∧ h.setRootH i v = h by
        have e : rootOk i = false := by simp [rootOk]; omega
        simp [HM.setRootE, HM.setRootH, e])
      have hd1 : decide (64 ≤ i) = true := by simpa using h1
      go_enter Tryz.func25, Tryz.ntmps25
      go_wp2_with fail
      refine hm.out.mono ?_
      rintro e w' ⟨rfl, rfl⟩
      go_wp2_with fail
      go_ret
      exact ⟨by rw [HF.out.1]; rfl, by rw [HF.out.2]; exact H, Step.refl _ _⟩
    · have hd1 : decide (64 ≤ i) = false := by simpa using h1
      obtain ⟨k, rfl⟩ := Int.eq_ofNat_of_zero_le (by omega : 0 ≤ i)
      have e : rootOk k = true := by simp [rootOk]; omega
      cases hval : h.valB v
      · have HF := Lib.hid (show h.setRootE k v = 3 ∧ h.setRootH k v = h by simp [HM.setRootE, HM.setRootH, e, hval])
        rw [hval] at HVC
        clear hval e
        go_enter Tryz.func25, Tryz.ntmps25
        go_wp2_with fail
        refine hm.out.mono ?_
        rintro e w' ⟨rfl, rfl⟩
        go_wp2_with fail
        refine HVC.out.mono ?_
        rintro e w' ⟨rfl, rfl⟩
        go_wp2_with fail
        go_ret
        exact ⟨by rw [HF.out.1]; rfl, by rw [HF.out.2]; exact H, Step.refl _ _⟩
      · have HF := Lib.hid (show h.setRootE k v = 0 ∧ h.setRootH k v = { h with roots := h.roots.set k v } by simp [HM.setRootE, HM.setRootH, e, hval])
        rw [hval] at HVC
        have hcell := H.root (i := k) (by rw [f.roots]; omega)
        have cf : w.frozen? ⟨p.gr, k, none⟩ = false := H.2.2.2.frozen _
        have HS := Lib.hid (H.setRoot k v)
        clear hval e
        generalize h.roots.getD k 0 = old at *
        generalize ({ h with roots := h.roots.set k v } : HM) = h2 at *
        have h1' : (k : Int) < 64 := by omega
        go_enter Tryz.func25, Tryz.ntmps25
        go_wp2_with fail
        refine hm.out.mono ?_
        rintro e w' ⟨rfl, rfl⟩
        go_wp2_with fail
        refine HVC.out.mono ?_
        rintro e w' ⟨rfl, rfl⟩
        go_wp2_with fail
        go_ret
        exact ⟨by rw [HF.out.1]; rfl, by rw [HF.out.2]; exact HS.out, (Step.refl _ _).setCell (.inl (.inr (.inr (.inr rfl)))) _⟩
end
end Go.Proofs.YtkpjkbkglnabiaaGreatDoor
