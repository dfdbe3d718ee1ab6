/- A script in memory; what a call of a script keeps. -/
/- awake: chapter 2's first two examples hold. -/
/- both: a heap of the program and one of the document, of the same size. -/
/- SameWords, SameOops, sameBytes: two lists are the same. -/
/- Like: has the program's heap what the document's has? Of one and the same heap: yes. -/
import Derived.Test.YtkpjkbkglnabiaaGreatDoorLive
import Derived.Test.YtkpjkbkglnabiaaGreatDoorNew
import Derived.Test.YtkpjkbkglnabiaaGreatDoorEqual
import Derived.Lib.SlBytesConst
import Derived.RegionTactic
import Derived.Deep.RegionHeld3
set_option linter.unusedSectionVars false
set_option linter.unusedVariables false
namespace Go.Proofs.YtkpjkbkglnabiaaGreatDoor
open Go.RowKit

def Dd.val (d : Dd) (A : Option Addr) (n c : Nat) : Value :=
  .agg #[.int .i64 d.k, .int .u32 (d.o : Nat), .int .u32 (d.v : Nat), .int .i64 d.f, .int .i64 d.i, .int .i64 d.n, .int .u32 (d.w : Nat), .slice A n c]

def Dd.vals (d : Dd) (A : Option Addr) (n c : Nat) : List Value :=
  [.int .i64 d.k, .int .u32 (d.o : Nat), .int .u32 (d.v : Nat), .int .i64 d.f, .int .i64 d.i, .int .i64 d.n, .int .u32 (d.w : Nat), .slice A n c]
/-- A script lies in memory, below block B. -/
def DeedsAt (w : World) (B : Nat) (A : Option Addr) (ds : List Dd) : Prop :=
  ∀ i d, ds[i]? = some d → d.Fit ∧ ∃ ad Ab nb cb, A = some ad ∧ ad.block < B ∧ nb ≤ 9223372036854775807 ∧ Reads w B 1 Ab nb (u8c d.b) ∧ ∀ j v, (d.vals Ab nb cb)[j]? = some v → w.cell? (ad.add (i * 8 + j)) = some v
section
variable {w w' : World} {p p' : HP} {B : Nat} {A : Option Addr} {ds : List Dd}
theorem DeedsAt.keep (h : DeedsAt w B A ds) (hk : ∀ q : Addr, q.block < B → w'.cell? q = w.cell? q) : DeedsAt w' B A ds := by
  intro i d hd
  obtain ⟨f, ad, Ab, nb, cb, h1, h2, h3, h4, h5⟩ := h i d hd
  exact ⟨f, ad, Ab, nb, cb, h1, h2, h3, h4.keep hk, fun j v hv => (hk _ (by rw [block_of_add]; exact h2)).trans (h5 j v hv)⟩
theorem DeedsAt.below (h : DeedsAt w B A ds) (hb : Below B w w') : DeedsAt w' B A ds := h.keep fun _ hq => hb.cell hq
theorem DeedsAt.fit (h : DeedsAt w B A ds) : ∀ d ∈ ds, d.Fit := fun d hd => by
  obtain ⟨i, hi⟩ := List.getElem?_of_mem hd
  exact (h i d hi).1
theorem cell_add {a : Addr} {j : Nat} {v : Value} (h : w.cell? (a.add j) = some v) (hj : 0 < j) : w.cell? ⟨a.block, a.off + j, none⟩ = some v := by
  unfold Addr.add at h
  rw [if_neg (by omega)] at h
  exact h
theorem DeedsAt.load (h : DeedsAt w B A ds) {i : Nat} {d : Dd} (hd : ds[i]? = some d) :
    ∃ ad Ab nb cb, A = some ad ∧ ad.block < B ∧ nb ≤ 9223372036854775807 ∧ Reads w B 1 Ab nb (u8c d.b) ∧
      w.cell? (ad.add (i * 8)) = some (.int .i64 d.k) ∧ w.cell? ⟨(ad.add (i * 8)).block, (ad.add (i * 8)).off + 1, none⟩ = some (.int .u32 (d.o : Nat)) ∧
      w.cell? ⟨(ad.add (i * 8)).block, (ad.add (i * 8)).off + 2, none⟩ = some (.int .u32 (d.v : Nat)) ∧ w.cell? ⟨(ad.add (i * 8)).block, (ad.add (i * 8)).off + 3, none⟩ = some (.int .i64 d.f) ∧
      w.cell? ⟨(ad.add (i * 8)).block, (ad.add (i * 8)).off + 4, none⟩ = some (.int .i64 d.i) ∧ w.cell? ⟨(ad.add (i * 8)).block, (ad.add (i * 8)).off + 5, none⟩ = some (.int .i64 d.n) ∧
      w.cell? ⟨(ad.add (i * 8)).block, (ad.add (i * 8)).off + 6, none⟩ = some (.int .u32 (d.w : Nat)) ∧ w.cell? ⟨(ad.add (i * 8)).block, (ad.add (i * 8)).off + 7, none⟩ = some (.slice Ab nb cb) := by
  obtain ⟨f, ad, Ab, nb, cb, h1, h2, h3, h4, h5⟩ := h i d hd
  have h6 : ∀ j v, 0 < j → (d.vals Ab nb cb)[j]? = some v → w.cell? ⟨(ad.add (i * 8)).block, (ad.add (i * 8)).off + j, none⟩ = some v := fun j v hj hv =>
    cell_add (by rw [add_of_add]; exact h5 j v hv) hj
  exact ⟨ad, Ab, nb, cb, h1, h2, h3, h4, h5 0 _ rfl, h6 1 _ (by omega) rfl, h6 2 _ (by omega) rfl, h6 3 _ (by omega) rfl, h6 4 _ (by omega) rfl, h6 5 _ (by omega) rfl, h6 6 _ (by omega) rfl, h6 7 _ (by omega) rfl⟩
end

theorem own_step {W w w' : World} {p p' : HP} {base n : Nat} {e : TypeId} {v : Value} {xs : List Value} (s : Step p p' w w') (h : w.ownsRow base e 1 v n xs) (ha : ∀ k, v.ownBlock = some k → ¬ p.has k) :
    w'.ownsRow base e 1 v n xs ∧ ∀ k, v.ownBlock = some k → ¬ p'.has k := by
  have hlt := h.lt
  refine ⟨⟨h.1, ?_⟩, fun k hk hh => ?_⟩
  · rcases h.2 with h2 | ⟨g, cap, cur, rfl, hb, hh, r⟩
    · exact .inl h2
    · exact .inr ⟨g, cap, cur, rfl, hb, (s.block g (hlt g rfl).2 (ha g rfl)).trans hh, r⟩
  · rcases s.rows k hh with hh | hh
    · exact ha k hk hh
    · have := (hlt k hk).2; omega
theorem Live.grown {W w w' : World} {p : HP} {g : Nat} {h : HM} {row : Option Nat} (L : Live W w p g h) (hg : w.grownBy w' row) (hr : ∀ k, row = some k → ¬ p.has k ∧ W.heap.size ≤ k) : Live W w' p g h :=
  ⟨L.at_.same fun k hk => hg.block k (L.at_.lt hk) (fun e => (hr k e.symm).1 hk), L.hg, L.good, L.env, L.new,
    ⟨hg.os.trans L.below.os, hg.tape.trans L.below.tape, hg.output.trans L.below.output, Nat.le_trans L.below.size hg.size, fun k hk =>
      (hg.block k (by have := L.below.size; omega) (fun e => by have := (hr k e.symm).2; omega)).trans (L.below.block k hk)⟩⟩
theorem HM.new_scr {n : Nat} (h1 : 64 ≤ n) (h2 : n ≤ 1048576) : (HM.new n).Scr [] := ⟨HM.new_good h1 h2 (HM.new_fit h1 h2), rfl⟩
theorem runM_len {n : Nat} (h1 : 64 ≤ n) (h2 : n ≤ 1048576) (ds : List Dd) (fd : ∀ d ∈ ds, d.Fit) : ((HM.new n).runM ds).length < 349526 := by
  obtain ⟨l, s, _, _, hl, _⟩ := (HM.new_scr h1 h2).run ds fd
  have := s.len
  have := s.last_lt
  simp at hl
  omega
theorem take_snoc {α : Type} {ds : List α} {k : Nat} {d : α} (hd : ds[k]? = some d) : ds.take (k + 1) = ds.take k ++ [d] := by
  rw [List.take_add_one, hd]; rfl

theorem ret_bool {a : Bool} (h : a = true) : Ending.returned (.bool a) = .returned (.bool true) := by rw [h]
end Go.Proofs.YtkpjkbkglnabiaaGreatDoor

namespace Go.Proofs.YtkpjkbkglnabiaaGreatDoor
open Go.RowKit

theorem num_any (n : Nat) (hn : n < 1000) (w : World) : Calls Tryz.prog 20 #[.int .i64 (n : Int)] w (Said (.int .i64 (n : Int)) w) := by
  go_enter Tryz.func20, Tryz.ntmps20
  go_wp2_with fail
  go_ret
  exact ⟨rfl, rfl⟩

def hello : List Nat := [104, 101, 108, 108, 111]
def aw0 : HM := HM.new 64
def aw1 : HM := aw0.AllocH 0 1 2
def aw2 : HM := aw1.makeH 2 hello
def aw3 : HM := aw2.setRootH 0 12
def aw4 : HM := aw3.AllocH 2 4 1
theorem aw_f1 : aw0.AllocO 0 1 2 = 2 ∧ aw0.AllocE 0 1 2 = 0 := by decide +kernel
theorem aw_f2 : aw1.makeO 2 hello = 12 ∧ aw1.makeE 2 hello = 0 := by decide +kernel
theorem aw_f3 : aw2.setRootE 0 12 = 0 := by decide +kernel
theorem aw_f4 : aw3.AllocO 2 4 1 = 22 ∧ aw3.AllocE 2 4 1 = 0 := by decide +kernel
theorem aw_f5 : aw4.readN 22 0 [1, 4] = 12 ∧ aw4.lookE 22 0 [1, 4] = 0 := by decide +kernel
def awT : List UInt8 := [64, 54, 32, 35, 50, 32, 98, 121, 116, 101, 115, 32, 53, 32, 99, 108, 97, 115, 115, 32, 64, 49, 58, 32, 49, 48, 52, 32, 49, 48, 49, 32, 49, 48, 56, 32, 49, 48, 56, 32, 49, 49, 49]
theorem aw_f6 : aw4.showS 12 = awT ∧ aw4.isE 12 = 0 := by decide +kernel
theorem aw_f7 : aw4.putE 2 0 14 = 3 := by decide +kernel
theorem hello_lt : ∀ x ∈ hello, x < 256 := by decide

theorem hello_reads (w : World) (t : TypeId) (r : Nat × Nat) : Reads (w.alloc (.cells #[.int .u8 104, .int .u8 101, .int .u8 108, .int .u8 108, .int .u8 111] t r)) (w.alloc (.cells #[.int .u8 104, .int .u8 101, .int .u8 108, .int .u8 108, .int .u8 111] t r)).heap.size 1 (some ⟨w.heap.size, 0, none⟩) 5 (u8c hello) :=
  ⟨rfl, fun _ => ⟨_, rfl, by simp, fun j u hj => by
    rw [WideShapes.add_plain, Nat.zero_add, World.cell?_alloc_mark]
    simpa [u8c, hello] using hj⟩⟩

set_option maxRecDepth 100000 in
set_option maxHeartbeats 2000000 in
theorem awake_any (W : World) (E : Env W) : Calls Tryz.prog 7 #[] W (Told (.bool true) W) := by
  have HE := Lib.hid E; clear E
  have kc := fun (w : World) (C : Array Value) (n c : Nat) => Lib.run_convert_bytes_const (P := Tryz.prog) w 31 5 C n c Tryz.underlying31 Tryz.underlying5
  go_enter Tryz.func7, Tryz.ntmps7
  go_wp2_with fail
  refine (new_any 64 (by decide) (by decide) _).mono ?_
  rintro e w1 hN
  obtain ⟨p, g, rfl, L0⟩ := Live.of_new (v := fun g => .tuple #[ptr g, .int .i64 0]) HE.out (by decide) (by decide) hN
  replace L0 : Live W w1 p g aw0 := L0
  clear hN
  unfold ptr
  go_wp2_with fail
  refine (num_any 0 (by decide) _).mono ?_
  rintro e w' ⟨rfl, rfl⟩
  go_wp2_with fail
  refine (L0.alloc 0 (by decide) 1 2).mono ?_
  rintro e w2 ⟨p1, rfl, L1, -⟩
  rw [aw_f1.1, aw_f1.2]
  replace L1 : Live W w2 p1 g aw1 := L1
  go_wp2_with fail
  refine ((L1.after ((Below.refl _ _).alloc (Nat.le_refl _) _)).make 2 (by decide) _ 5 5 hello (by decide) (hello_reads w2 _ _) hello_lt).mono ?_
  rintro e w3 ⟨p2, rfl, L2, -⟩
  rw [aw_f2.1, aw_f2.2]
  replace L2 : Live W w3 p2 g aw2 := L2
  go_wp2_with fail
  refine (num_any 0 (by decide) _).mono ?_
  rintro e w' ⟨rfl, rfl⟩
  go_wp2_with fail
  refine (num_any 0 (by decide) _).mono ?_
  rintro e w' ⟨rfl, rfl⟩
  go_wp2_with fail
  refine (L2.setRoot 0 12 (by decide)).mono ?_
  rintro e w4 ⟨p3, rfl, L3, -⟩
  rw [aw_f3]
  replace L3 : Live W w4 p3 g aw3 := L3
  go_wp2_with fail
  refine (num_any 0 (by decide) _).mono ?_
  rintro e w' ⟨rfl, rfl⟩
  go_wp2_with fail
  refine (L3.alloc 2 (by decide) 4 1).mono ?_
  rintro e w5 ⟨p4, rfl, L4, -⟩
  rw [aw_f4.1, aw_f4.2]
  replace L4 : Live W w5 p4 g aw4 := L4
  go_wp2_with fail
  refine (L4.get 22 (by decide) 0).mono ?_
  rintro e w6 ⟨rfl, hb6⟩
  rw [aw_f5.1, aw_f5.2]
  replace L4 := L4.after hb6
  clear hb6
  go_wp2_with fail
  refine (L4.show 12 (by decide)).mono ?_
  rintro e w7 ⟨rfl, hb7⟩
  rw [aw_f6.1, aw_f6.2]
  replace L4 := L4.after hb7
  clear hb7
  unfold awT
  go_wp2_with fail
  refine (num_any 0 (by decide) _).mono ?_
  rintro e w' ⟨rfl, rfl⟩
  go_wp2_with fail
  refine (num_any 0 (by decide) _).mono ?_
  rintro e w' ⟨rfl, rfl⟩
  go_wp2_with fail
  refine (num_any 0 (by decide) _).mono ?_
  rintro e w' ⟨rfl, rfl⟩
  go_wp2_with fail
  refine (L4.put 2 (by decide) 0 14 (by decide)).mono ?_
  rintro e w8 ⟨p5, rfl, L5, -⟩
  rw [aw_f7]
  go_wp2_with fail
  refine (num_any 3 (by decide) _).mono ?_
  rintro e w' ⟨rfl, rfl⟩
  go_wp2_with fail
  go_ret
  exact ⟨rfl, L5.below⟩
end Go.Proofs.YtkpjkbkglnabiaaGreatDoor

namespace Go.Proofs.YtkpjkbkglnabiaaGreatDoor
open Go.RowKit
attribute [local go_sem] Oper.semAt_some
/-- Two new heaps, the same inside. -/
def BothP (n : Nat) (w : World) (d : Ending) (w' : World) : Prop :=
  ∃ p q : HP, d = .returned (.tuple #[ptr p.g, ptr q.g, .bool true]) ∧ HAt w' p (HM.new n) ∧ RAt w' q (HM.new n) ∧ (∀ k, p.has k → w.heap.size ≤ k) ∧ (∀ k, q.has k → w.heap.size ≤ k ∧ ¬ p.has k) ∧ Below w.heap.size w w'
set_option maxHeartbeats 1000000 in
theorem both_any (n : Nat) (h1 : 64 ≤ n) (h2 : n ≤ 1048576) (w : World) : Calls Tryz.prog 6 #[.int .i64 n] w (BothP n w) := by
  have HN := Lib.hid (new_any n h1 h2 w)
  have HRN := Lib.hid (fun w' => rnew_any n h1 h2 w')
  have HNU := Lib.hid (fun w' => num_any 0 (by decide) w')
  go_enter Tryz.func6, Tryz.ntmps6
  go_wp2_with fail
  refine HN.out.mono ?_
  rintro e w1 ⟨p, rfl, H1, hp1, hb1⟩
  have HH := Lib.hid H1
  have HP1 := Lib.hid hp1
  have HB1 := Lib.hid hb1
  clear H1 hp1 hb1
  unfold ptr
  go_wp2_with fail
  refine (HRN.out _).mono ?_
  rintro e w2 ⟨q, rfl, R2, hq2, hb2⟩
  have HR := Lib.hid R2
  have HQ2 := Lib.hid hq2
  have HB2 := Lib.hid hb2
  clear R2 hq2 hb2
  unfold ptr
  go_wp2_with fail
  refine (HNU.out _).mono ?_
  rintro e w3 ⟨rfl, rfl⟩
  go_wp2_with fail
  go_ret3
  exact ⟨p, q, rfl, HH.out.below HB2.out, HR.out, HP1.out, fun k hk => ⟨Nat.le_trans HB1.out.size (HQ2.out k hk), fun hh => by have := HQ2.out k hk; have := HH.out.lt hh; omega⟩, below_top HB1.out HB2.out⟩
end Go.Proofs.YtkpjkbkglnabiaaGreatDoor

namespace Go.Proofs.YtkpjkbkglnabiaaGreatDoor
open Go.RowKit

theorem u8c_len (l : List Nat) : (u8c l).length = l.length := by simp [u8c]
theorem u8c_get {l : List Nat} {i : Nat} (h : i < l.length) : (u8c l)[i]? = some (.int .u8 ((l.getD i 0 : Nat) : Int)) := by
  simp [u8c, List.getD, h]

set_option maxHeartbeats 1000000 in
theorem sameWords_any (A A' : Option Addr) (n n' c c' : Nat) (xs ys : List Nat) (w : World) (hn : n ≤ 9223372036854775807) (hn' : n' ≤ 9223372036854775807) (hr : Reads w w.heap.size 1 A n (u32s xs)) (hr' : Reads w w.heap.size 1 A' n' (u32s ys)) :
    Calls Tryz.prog 17 #[.slice A n c, .slice A' n' c'] w (Told (.bool (sameL xs ys)) w) := by
  have hl : xs.length = n := by have := hr.1; rw [u32s_len] at this; omega
  have hl' : ys.length = n' := by have := hr'.1; rw [u32s_len] at this; omega
  have HL := Lib.hid hl; have HL' := Lib.hid hl'
  clear hl hl'
  have HR := Lib.hid hr; have HR' := Lib.hid hr'
  clear hr hr'
  by_cases hnn : n = n'
  · subst hnn
    go_enter Tryz.func17, Tryz.ntmps17
    go_wp2_with fail
    go_loopw [5] (fun i wr => ∃ k : Nat, k ≤ n ∧ i = .int .i64 k ∧ xs.take k = ys.take k ∧ Below w.heap.size w wr) (fun i _ => n - (intOf i).toNat)
    case atStart => exact ⟨0, by omega, rfl, rfl, Below.refl _ _⟩
    case round =>
      obtain ⟨k, hk, rfl, ht, hb⟩ := hrel
      have HT := Lib.hid ht; clear ht
      by_cases hlt : k < n
      · have hx : k < xs.length := by rw [HL.out]; exact hlt
        have hy : k < ys.length := by rw [HL'.out]; exact hlt
        obtain ⟨ad, u, rfl, hbl, hu, hc⟩ := (HR.out.below hb).at_ hlt
        obtain ⟨ad', u', rfl, hbl', hu', hc'⟩ := (HR'.out.below hb).at_ hlt
        rw [u32s_get hx] at hu
        rw [u32s_get hy] at hu'
        injection hu with hu
        injection hu' with hu'
        subst hu hu'
        have HX := Lib.hid hx; have HY := Lib.hid hy
        clear hx hy
        by_cases he : xs.getD k 0 = ys.getD k 0
        · have HE := Lib.hid (take_eq_succ HX.out HY.out he HT.out)
          have hv : ((xs.getD k 0 : Int) != (ys.getD k 0 : Int)) = false := by rw [he]; simp
          clear he
          generalize xs.getD k 0 = x at *
          generalize ys.getD k 0 = y at *
          go_wp2_with fail
          go_region
          all_goals go_wp2_with fail
          all_goals go_roundw
          case rel => exact ⟨k + 1, by omega, by go_num, HE.out, below_drew hb⟩
          case measure => simp [intOf]; omega
        · have HE := Lib.hid (sameL_at HX.out HY.out he)
          have hv : ((xs.getD k 0 : Int) != (ys.getD k 0 : Int)) = true := by rw [bne_iff_ne]; omega
          clear he
          generalize xs.getD k 0 = x at *
          generalize ys.getD k 0 = y at *
          go_wp2_with fail
          go_region
          all_goals go_wp2_with fail
          all_goals go_ret
          all_goals exact ⟨by rw [HE.out]; rfl, below_drew hb⟩
      · obtain rfl : k = n := by omega
        have HA := Lib.hid (sameL_all HL.out HL'.out HT.out)
        go_wp2_with fail
        go_ret
        exact ⟨by rw [HA.out]; rfl, hb⟩
  · have HF := Lib.hid (sameL_len (xs := xs) (ys := ys) (by rw [HL.out, HL'.out]; exact hnn))
    have hv : ((n : Int) != (n' : Int)) = true := by simp; omega
    clear hnn
    go_enter Tryz.func17, Tryz.ntmps17
    go_wp2_with fail
    go_ret
    exact ⟨by rw [HF.out]; rfl, Below.refl _ _⟩

set_option maxHeartbeats 1000000 in
theorem sameOops_any (A A' : Option Addr) (n n' c c' : Nat) (xs ys : List Nat) (w : World) (hn : n ≤ 9223372036854775807) (hn' : n' ≤ 9223372036854775807) (hr : Reads w w.heap.size 1 A n (u32s xs)) (hr' : Reads w w.heap.size 1 A' n' (u32s ys)) :
    Calls Tryz.prog 18 #[.slice A n c, .slice A' n' c'] w (Told (.bool (sameL xs ys)) w) := by
  have hl : xs.length = n := by have := hr.1; rw [u32s_len] at this; omega
  have hl' : ys.length = n' := by have := hr'.1; rw [u32s_len] at this; omega
  have HL := Lib.hid hl; have HL' := Lib.hid hl'
  clear hl hl'
  have HR := Lib.hid hr; have HR' := Lib.hid hr'
  clear hr hr'
  by_cases hnn : n = n'
  · subst hnn
    go_enter Tryz.func18, Tryz.ntmps18
    go_wp2_with fail
    go_loopw [5] (fun i wr => ∃ k : Nat, k ≤ n ∧ i = .int .i64 k ∧ xs.take k = ys.take k ∧ Below w.heap.size w wr) (fun i _ => n - (intOf i).toNat)
    case atStart => exact ⟨0, by omega, rfl, rfl, Below.refl _ _⟩
    case round =>
      obtain ⟨k, hk, rfl, ht, hb⟩ := hrel
      have HT := Lib.hid ht; clear ht
      by_cases hlt : k < n
      · have hx : k < xs.length := by rw [HL.out]; exact hlt
        have hy : k < ys.length := by rw [HL'.out]; exact hlt
        obtain ⟨ad, u, rfl, hbl, hu, hc⟩ := (HR.out.below hb).at_ hlt
        obtain ⟨ad', u', rfl, hbl', hu', hc'⟩ := (HR'.out.below hb).at_ hlt
        rw [u32s_get hx] at hu
        rw [u32s_get hy] at hu'
        injection hu with hu
        injection hu' with hu'
        subst hu hu'
        have HX := Lib.hid hx; have HY := Lib.hid hy
        clear hx hy
        by_cases he : xs.getD k 0 = ys.getD k 0
        · have HE := Lib.hid (take_eq_succ HX.out HY.out he HT.out)
          have hv : ((xs.getD k 0 : Int) != (ys.getD k 0 : Int)) = false := by rw [he]; simp
          clear he
          generalize xs.getD k 0 = x at *
          generalize ys.getD k 0 = y at *
          go_wp2_with fail
          go_region
          all_goals go_wp2_with fail
          all_goals go_roundw
          case rel => exact ⟨k + 1, by omega, by go_num, HE.out, below_drew hb⟩
          case measure => simp [intOf]; omega
        · have HE := Lib.hid (sameL_at HX.out HY.out he)
          have hv : ((xs.getD k 0 : Int) != (ys.getD k 0 : Int)) = true := by rw [bne_iff_ne]; omega
          clear he
          generalize xs.getD k 0 = x at *
          generalize ys.getD k 0 = y at *
          go_wp2_with fail
          go_region
          all_goals go_wp2_with fail
          all_goals go_ret
          all_goals exact ⟨by rw [HE.out]; rfl, below_drew hb⟩
      · obtain rfl : k = n := by omega
        have HA := Lib.hid (sameL_all HL.out HL'.out HT.out)
        go_wp2_with fail
        go_ret
        exact ⟨by rw [HA.out]; rfl, hb⟩
  · have HF := Lib.hid (sameL_len (xs := xs) (ys := ys) (by rw [HL.out, HL'.out]; exact hnn))
    have hv : ((n : Int) != (n' : Int)) = true := by simp; omega
    clear hnn
    go_enter Tryz.func18, Tryz.ntmps18
    go_wp2_with fail
    go_ret
    exact ⟨by rw [HF.out]; rfl, Below.refl _ _⟩

set_option maxHeartbeats 1000000 in
theorem sameBytes_any (A A' : Option Addr) (n n' c c' : Nat) (xs ys : List Nat) (w : World) (hn : n ≤ 9223372036854775807) (hn' : n' ≤ 9223372036854775807) (hr : Reads w w.heap.size 1 A n (u8c xs)) (hr' : Reads w w.heap.size 1 A' n' (u8c ys)) :
    Calls Tryz.prog 31 #[.slice A n c, .slice A' n' c'] w (Told (.bool (sameL xs ys)) w) := by
  have hl : xs.length = n := by have := hr.1; rw [u8c_len] at this; omega
  have hl' : ys.length = n' := by have := hr'.1; rw [u8c_len] at this; omega
  have HL := Lib.hid hl; have HL' := Lib.hid hl'
  clear hl hl'
  have HR := Lib.hid hr; have HR' := Lib.hid hr'
  clear hr hr'
  by_cases hnn : n = n'
  · subst hnn
    go_enter Tryz.func31, Tryz.ntmps31
    go_wp2_with fail
    go_loopw [5] (fun i wr => ∃ k : Nat, k ≤ n ∧ i = .int .i64 k ∧ xs.take k = ys.take k ∧ Below w.heap.size w wr) (fun i _ => n - (intOf i).toNat)
    case atStart => exact ⟨0, by omega, rfl, rfl, Below.refl _ _⟩
    case round =>
      obtain ⟨k, hk, rfl, ht, hb⟩ := hrel
      have HT := Lib.hid ht; clear ht
      by_cases hlt : k < n
      · have hx : k < xs.length := by rw [HL.out]; exact hlt
        have hy : k < ys.length := by rw [HL'.out]; exact hlt
        obtain ⟨ad, u, rfl, hbl, hu, hc⟩ := (HR.out.below hb).at_ hlt
        obtain ⟨ad', u', rfl, hbl', hu', hc'⟩ := (HR'.out.below hb).at_ hlt
        rw [u8c_get hx] at hu
        rw [u8c_get hy] at hu'
        injection hu with hu
        injection hu' with hu'
        subst hu hu'
        have HX := Lib.hid hx; have HY := Lib.hid hy
        clear hx hy
        by_cases he : xs.getD k 0 = ys.getD k 0
        · have HE := Lib.hid (take_eq_succ HX.out HY.out he HT.out)
          have hv : ((xs.getD k 0 : Int) != (ys.getD k 0 : Int)) = false := by rw [he]; simp
          clear he
          generalize xs.getD k 0 = x at *
          generalize ys.getD k 0 = y at *
          go_wp2_with fail
          go_region
          all_goals go_wp2_with fail
          all_goals go_roundw
          case rel => exact ⟨k + 1, by omega, by go_num, HE.out, below_drew hb⟩
          case measure => simp [intOf]; omega
        · have HE := Lib.hid (sameL_at HX.out HY.out he)
          have hv : ((xs.getD k 0 : Int) != (ys.getD k 0 : Int)) = true := by rw [bne_iff_ne]; omega
          clear he
          generalize xs.getD k 0 = x at *
          generalize ys.getD k 0 = y at *
          go_wp2_with fail
          go_region
          all_goals go_wp2_with fail
          all_goals go_ret
          all_goals exact ⟨by rw [HE.out]; rfl, below_drew hb⟩
      · obtain rfl : k = n := by omega
        have HA := Lib.hid (sameL_all HL.out HL'.out HT.out)
        go_wp2_with fail
        go_ret
        exact ⟨by rw [HA.out]; rfl, hb⟩
  · have HF := Lib.hid (sameL_len (xs := xs) (ys := ys) (by rw [HL.out, HL'.out]; exact hnn))
    have hv : ((n : Int) != (n' : Int)) = true := by simp; omega
    clear hnn
    go_enter Tryz.func31, Tryz.ntmps31
    go_wp2_with fail
    go_ret
    exact ⟨by rw [HF.out]; rfl, Below.refl _ _⟩
end Go.Proofs.YtkpjkbkglnabiaaGreatDoor

namespace Go.Proofs.YtkpjkbkglnabiaaGreatDoor
open Go.RowKit

theorem rtop_any {w : World} {q : HP} {h : HM} (R : RAt w q h) (hl : h.words.length ≤ 1048576) : Calls Tryz.prog 10 #[.pointer (some ⟨q.g, 0, none⟩)] w (Said (.int .i64 (h.words.length : Nat)) w) := by
  have c1 := R.c1
  go_enter Tryz.func10, Tryz.ntmps10
  go_wp2_with fail
  go_ret
  exact ⟨rfl, rfl⟩

set_option maxRecDepth 100000 in
set_option maxHeartbeats 4000000 in
theorem like_any {W w : World} {p q : HP} {g : Nat} {h : HM} (L : Live W w p g h) (R : RAt w q h) :
    Calls Tryz.prog 11 #[.pointer (some ⟨g, 0, none⟩), .pointer (some ⟨q.g, 0, none⟩)] w (Told (.bool true) w) := by
  have hf := L.fit
  have r1 := hf.room
  have r2 := hf.hi
  have hrl := hf.roots
  have HSZ := Lib.hid (fun (w1 : World) (hb : Below w.heap.size w w1) => (L.after hb).size)
  have HTP := Lib.hid (fun (w1 : World) (hb : Below w.heap.size w w1) => (L.after hb).top)
  have HLS := Lib.hid (fun (w1 : World) (hb : Below w.heap.size w w1) => (L.after hb).last)
  have HWD := Lib.hid (fun (w1 : World) (hb : Below w.heap.size w w1) => (L.after hb).words)
  have HRT := Lib.hid (fun (w1 : World) (hb : Below w.heap.size w w1) => (L.after hb).roots)
  have HTQ := Lib.hid (fun (w1 : World) (hb : Below w.heap.size w w1) => rtop_any (R.below hb) (by omega))
  have HSW := Lib.hid (fun (w1 w2 : World) (hb : Below w.heap.size w w2) (g1 c1 : Nat) (r : Row w2 g1 29 c1 (u32s h.words)) => sameWords_any (some ⟨g1, 0, none⟩) (some ⟨q.gw, 0, none⟩) h.words.length h.words.length c1 q.cw h.words h.words w2 (by omega) (by omega)
    (by have := r.reads r.lt; rw [u32s_len] at this; exact this) (by have := (R.below hb).2.1.reads (R.below hb).2.1.lt; rw [u32s_len] at this; exact this))
  have HSO := Lib.hid (fun (w1 w2 : World) (hb : Below w.heap.size w w2) (g1 c1 : Nat) (r : Row w2 g1 30 c1 (u32s h.roots)) => sameOops_any (some ⟨g1, 0, none⟩) (some ⟨q.gr, 0, none⟩) h.roots.length h.roots.length c1 q.cr h.roots h.roots w2 (by omega) (by omega)
    (by have := r.reads r.lt; rw [u32s_len] at this; exact this) (by have := (R.below hb).2.2.2.reads (R.below hb).2.2.2.lt; rw [u32s_len] at this; exact this))
  rw [sameL_self] at HSW HSO
  have HC := Lib.hid (fun (w1 : World) (hb : Below w.heap.size w w1) => (R.below hb).1.cells5)
  obtain ⟨c0, c1, c2, c3, c4⟩ := R.1.cells5
  have HL1 := Lib.hid (u32s_len h.words)
  have HL2 := Lib.hid (u32s_len h.roots)
  have hB0 : Below w.heap.size w w.drew := below_drew (Below.refl _ _)
  clear L R hf hrl
  go_enter Tryz.func11, Tryz.ntmps11
  go_wp2_with fail
  go_region_held3 (fun w' => w'.cell? ⟨q.g, 0, none⟩ = some (.int .i64 h.size) ∧ w'.cell? ⟨q.g, 1, none⟩ = some (.slice (some ⟨q.gw, 0, none⟩) h.words.length q.cw) ∧ w'.cell? ⟨q.g, 2, none⟩ = some (.slice (some ⟨q.gr, 0, none⟩) h.roots.length q.cr) ∧ w'.cell? ⟨q.g, 3, none⟩ = some (.int .u32 h.last) ∧ w'.cell? ⟨q.g, 4, none⟩ = some (.slice (some ⟨q.gs, 0, none⟩) h.starts.length q.cs))
    (first | exact ⟨c0, c1, c2, c3, c4⟩ | exact HC.out _ (by assumption) | go_keep)
    (first
      | (go_at_call 49; refine (HSZ.out _ (by assumption)).mono ?_; rintro e w' ⟨rfl, rfl⟩)
      | (go_at_call 9; refine (HTP.out _ (by assumption)).mono ?_; rintro e w' ⟨rfl, rfl⟩)
      | (go_at_call 50; refine (HLS.out _ (by assumption)).mono ?_; rintro e w' ⟨rfl, rfl⟩)
      | (go_at_call 10; refine (HTQ.out _ (by assumption)).mono ?_; rintro e w' ⟨rfl, rfl⟩)
      | (go_at_call 51; refine (HWD.out _ (by assumption)).mono ?_; rintro e w1 ⟨g1, k1, rfl, rw1, -, hb1⟩; rw [HL1.out]; have hB1 := below_top (by assumption) hb1)
      | (go_at_call 52; refine (HRT.out _ (by assumption)).mono ?_; rintro e w3 ⟨g3, k3, rfl, rw3, -, hb3⟩; rw [HL2.out]; have hB3 := below_top (by assumption) hb3)
      | (go_at_call 17; refine (HSW.out w _ (by assumption) _ _ (by assumption)).mono ?_; rintro e w2 ⟨rfl, hb2⟩; have hB2 := below_top (by assumption) hb2)
      | (go_at_call 18; refine (HSO.out w _ (by assumption) _ _ (by assumption)).mono ?_; rintro e w4 ⟨rfl, hb4⟩; have hB4 := below_top (by assumption) hb4))
  all_goals go_wp2_with fail
  all_goals go_ret
  all_goals exact ⟨rfl, by assumption⟩
end Go.Proofs.YtkpjkbkglnabiaaGreatDoor
