/- (*Heap).sound: is all as a heap keeps it? -/
/- (*Heap).Load: takes words, roots and the last serial, or refuses them. -/
import Derived.Test.YtlkahgagmfhdaaaGreatDoorJMake
import Derived.Test.YtlkahgagmfhdaaaGreatDoorJLook
import Derived.Test.YtlkahgagmfhdaaaGreatDoorJMapIs
import Derived.Test.YtlkahgagmfhdaaaGreatDoorJClone
import Derived.Test.YtlkahgagmfhdaaaGreatDoorJAlloc
import Derived.Deep.DeepCutAuto
import Derived.BigQuiet
import Derived.IntWalk
import Derived.Deep.QuietTactic
import Derived.Deep.RegionLaw
set_option linter.unusedVariables false
set_option linter.unusedSectionVars false
namespace Go.Proofs.YtlkahgagmfhdaaaGreatDoor
open Go.RowKit Go.Maps

structure HM.ObOk (h : HM) (b : Ob) : Prop where
  cls : h.clsB b.x.cls = true
  flds : b.x.ptrB = true → ∀ f ∈ b.fs, h.valB f = true
  spare : b.x.fmt = 2 → spareE b.fs b.x.spare = 0
  lo : 1 ≤ b.x.ser
  hi : b.x.ser ≤ h.last
def HM.UpTo (h : HM) (a : List Ob) : Prop := (∀ b ∈ a, h.ObOk b) ∧ (a.map (·.x.ser)).Nodup
theorem HM.sound_iff (h : HM) (l : List Ob) : h.Sound l ↔ h.UpTo l ∧ ∀ r ∈ h.roots, h.valB r = true :=
  ⟨fun s => ⟨⟨fun b hb => ⟨s.cls b hb, s.flds b hb, s.spare b hb, (s.sers b hb).1, (s.sers b hb).2⟩, s.nodup⟩, s.roots⟩,
   fun s => ⟨fun b hb => (s.1.1 b hb).cls, fun b hb => (s.1.1 b hb).flds, fun b hb => (s.1.1 b hb).spare, fun b hb => ⟨(s.1.1 b hb).lo, (s.1.1 b hb).hi⟩, s.1.2, s.2⟩⟩
theorem HM.not_sound_ob {h : HM} {a c : List Ob} {b : Ob} (hn : ¬ h.ObOk b) : ¬ h.Sound (a ++ b :: c) := fun s => hn (((h.sound_iff _).1 s).1.1 b (by simp))
theorem HM.not_sound_dup {h : HM} {a c : List Ob} {b : Ob} (hn : b.x.ser ∈ a.map (·.x.ser)) : ¬ h.Sound (a ++ b :: c) := fun s => by
  have := s.nodup
  rw [List.map_append, List.map_cons, List.nodup_append] at this
  exact this.2.2 _ hn _ (by simp) rfl
theorem HM.upTo_nil (h : HM) : h.UpTo [] := ⟨(fun _ hb => by cases hb), List.nodup_nil⟩
theorem HM.UpTo.snoc {h : HM} {a : List Ob} {b : Ob} (u : h.UpTo a) (ho : h.ObOk b) (hn : b.x.ser ∉ a.map (·.x.ser)) : h.UpTo (a ++ [b]) := by
  refine ⟨fun y hy => ?_, ?_⟩
  · rcases List.mem_append.1 hy with hy | hy
    · exact u.1 y hy
    · simp only [List.mem_cons, List.not_mem_nil, or_false] at hy
      exact hy ▸ ho
  · rw [List.map_append, List.nodup_append]
    refine ⟨u.2, by simp, ?_⟩
    intro s hs s' hs'
    simp only [List.map_cons, List.map_nil, List.mem_cons, List.not_mem_nil, or_false] at hs'
    subst hs'
    rintro rfl
    exact hn hs

/-- How often a serial was met: once or not at all. -/
def cntOf (a : List Ob) : Nat → Nat := fun x => if x ∈ a.map (·.x.ser) then 1 else 0
theorem cnt_snoc {a : List Ob} {b : Ob} (hn : b.x.ser ∉ a.map (·.x.ser)) : upd (cntOf a) b.x.ser 1 = cntOf (a ++ [b]) := by
  funext y
  unfold upd cntOf
  by_cases hy : y = b.x.ser
  · subst hy; rw [if_pos rfl, if_pos (by simp)]
  · rw [if_neg hy]
    have e : (y ∈ (a ++ [b]).map (·.x.ser)) = (y ∈ a.map (·.x.ser)) := by simp [hy]
    simp only [e]
theorem sersTy : MapTy 309 32 := ⟨Tryz.underlying309, Tryz.underlying32⟩

/-- The oop at which the walk stands: the first of what is ahead, or none. -/
def oopAt (a c : List Ob) : Nat := if c = [] then 0 else 2 * posOf a
theorem HM.Laid.objM_at {h : HM} {a c : List Ob} (L : h.Laid (a ++ c)) : h.objM (posOf a) = oopAt a c := by
  have hw : h.words.length = posOf a + (wsOf c).length := by rw [L.words, wsOf_app]; simp [posOf]; omega
  unfold HM.objM oopAt
  cases c with
  | nil => rw [if_pos (by rw [hw]; simp [wsOf_nil]), if_pos rfl]
  | cons b c =>
    rw [if_neg (by rw [hw, wsOf_cons]; simp [b.ws_len]; omega), if_neg (by simp)]
theorem HM.Laid.nextO_at {h : HM} {a c : List Ob} {b : Ob} (L : h.Laid (a ++ b :: c)) : h.nextO (2 * posOf a) = oopAt (a ++ [b]) c := by
  unfold HM.nextO
  rw [half_pos, L.hd_at, L.ok_at.size, ← posOf_snoc]
  exact HM.Laid.objM_at (by rw [List.append_assoc]; exact L)

/-- An object's fields as they lie in the program's heap. -/
theorem HAt.fields {w : World} {p : HP} {h : HM} {a c : List Ob} {b : Ob} (H : HAt w p h) (L : h.Laid (a ++ b :: c)) {B : Nat} (hB : p.gw < B) : Reads w B 1 (some ⟨p.gw, posOf a + 3, none⟩) b.fs.length (u32s b.fs) :=
  ⟨by simp [u32s_len], fun _ => ⟨_, rfl, hB, fun j u hj => by
    have hjl : j < b.fs.length := by
      rcases Nat.lt_or_ge j b.fs.length with h1 | h1
      · exact h1
      · rw [List.getElem?_eq_none (by rw [u32s_len]; exact h1)] at hj; cases hj
    rw [u32s_get hjl] at hj
    injection hj with hj
    subst hj
    rw [WideShapes.add_plain]
    have hwl := L.words_len
    have := H.word (i := posOf a + 3 + j) (by omega)
    rw [this]
    have e := L.f_at j hjl
    unfold fw at e
    rw [half_pos] at e
    rw [← e]
    rfl⟩⟩

/-- Whether an object's header is none that may follow those objects. -/
def HM.badHd (h : HM) (a : List Ob) (b : Ob) : Bool := decide (b.x.ser = 0) || decide (h.last < b.x.ser) || decide (b.x.ser ∈ a.map (·.x.ser)) || !h.clsB b.x.cls

theorem HM.badHd_not {h : HM} {a c : List Ob} {b : Ob} (hb : h.badHd a b = true) : ¬ h.Sound (a ++ b :: c) := by
  unfold HM.badHd at hb
  simp only [Bool.or_eq_true, decide_eq_true_eq, Bool.not_eq_true'] at hb
  rcases hb with ((hb | hb) | hb) | hb
  · exact HM.not_sound_ob fun k => by have := k.lo; omega
  · exact HM.not_sound_ob fun k => by have := k.hi; omega
  · exact HM.not_sound_dup hb
  · exact HM.not_sound_ob fun k => by have := k.cls; rw [hb] at this; cases this
theorem HM.badHd_ok {h : HM} {a : List Ob} {b : Ob} (hb : h.badHd a b = false) : 1 ≤ b.x.ser ∧ b.x.ser ≤ h.last ∧ b.x.ser ∉ a.map (·.x.ser) ∧ h.clsB b.x.cls = true := by
  unfold HM.badHd at hb
  simp only [Bool.or_eq_false_iff, decide_eq_false_iff_not, Bool.not_eq_false'] at hb
  exact ⟨by omega, by omega, hb.1.2, hb.2⟩

/-- What sound answers. -/
def SoundP (h : HM) (l : List Ob) (w : World) (e : Ending) (w' : World) : Prop := ∃ b : Bool, e = .returned (.bool b) ∧ (b = true ↔ h.Sound l) ∧ Below w.heap.size w w'
def SoundMid (h : HM) (gm : Nat) (a : List Ob) (w wr : World) : Prop := h.UpTo a ∧ MapIs 32 wr gm a.length (cntOf a) ∧ Below w.heap.size w wr

set_option maxRecDepth 100000 in
set_option maxHeartbeats 4000000 in
theorem sound_any {w : World} {p : HP} {h : HM} {l : List Ob} (H : HAt w p h) (f : h.Fit) (L : h.Laid l) (hs : Spares w) :
    Calls Tryz.prog 173 #[ptr p.g] w (SoundP h l w) := by
  have hmm := @run_makeMap Tryz.prog
  have hb0 := fun o => (Below.refl w.heap.size w).alloc (Nat.le_refl _) o
  have hW1 : Below w.heap.size w ((w.alloc (.cells #[.pointer (some ⟨p.g, 0, none⟩)] 23)).alloc (.map #[] 0)) := ((Below.refl _ _).alloc (Nat.le_refl _) _).alloc (by simp) _
  have HB0 := Lib.hid hb0
  have HH := Lib.hid H; have HF := Lib.hid f; have HL := Lib.hid L; have HS := Lib.hid hs
  have HFI := Lib.hid (fun (w' : World) (hb : Below w.heap.size w w') => first_any (H.below hb) f)
  have HFO := Lib.hid (show h.objM 1 = oopAt [] l from HM.Laid.objM_at (a := []) L)
  clear hb0 H f L hs
  unfold ptr at HFI ⊢
  go_enter Tryz.func173, Tryz.ntmps173
  go_wp2_with fail
  refine (HFI.out _ hW1).mono ?_
  rintro e w' ⟨rfl, rfl⟩
  rw [HFO.out]
  have BB := (Blk.new w 23 #[.pointer (some ⟨p.g, 0, none⟩)]).alloc (.map #[] 0)
  have MM := MapIs.made (w.alloc (.cells #[.pointer (some ⟨p.g, 0, none⟩)] 23)) 32
  rw [World.size_alloc] at MM
  generalize hW : (w.alloc (.cells #[.pointer (some ⟨p.g, 0, none⟩)] 23)).alloc (.map #[] 0) = W1 at *
  clear hW
  have HM0 := Lib.hid (show SoundMid h (w.heap.size + 1) [] w W1 from ⟨h.upTo_nil, MM, hW1⟩)
  have HBB := Lib.hid BB
  have HW1 := Lib.hid hW1
  clear BB MM hW1
  go_wp2_with fail
  have hmf : ∀ (fn : Fn) (first cap : Array Value) (w : World), (Instr.makeFunc fn first cap).run Tryz.prog w = .ok (.func fn first cap) w := fun _ _ _ _ => rfl
  have hne0 : w.heap.size ≠ p.gw := by have := HH.out.lt (.inr (.inl rfl)); omega
  go_loopg [4] (l.length + 1) (fun k o wr => ∃ a c, l = a ++ c ∧ k = c.length + 1 ∧ o = .int .u32 (oopAt a c : Nat) ∧ SoundMid h (w.heap.size + 1) a w wr ∧ Blk wr w.heap.size 23 #[.pointer (some ⟨p.g, 0, none⟩)])
  case atStart => exact ⟨[], l, rfl, rfl, rfl, HM0.out, HBB.out⟩
  case round =>
    obtain ⟨a, c, hl, hgk, rfl, ⟨hup, hmap, hb⟩, hbox⟩ := hrel
    have HLL := Lib.hid hl
    have HGK := Lib.hid hgk
    clear HM0 HBB HW1 hl hgk
    have bx := hbox.cell 0
    simp only [List.getElem?_toArray, List.getElem?_cons_zero] at bx
    cases c with
    | nil =>
      have ho : oopAt a [] = 0 := rfl
      rw [ho]
      have Hr := HH.out.below hb
      have c2 := Hr.c2
      have Rr := Hr.2.2.2.reads Hr.2.2.2.lt
      rw [u32s_len] at Rr
      have hrl : h.roots.length ≤ 9223372036854775807 := by rw [HF.out.roots]; omega
      have HC := Lib.hid (containsFunc_any Hr HF.out w.heap.size bx (some ⟨p.gr, 0, none⟩) h.roots.length p.cr _ h.roots hrl Rr HF.out.r32)
      have HS2 := Lib.hid (show (!(h.roots.any fun o => !h.valB o)) = true ↔ h.Sound l by
        rw [h.sound_iff, HLL.out, List.append_nil]
        simp only [Bool.not_eq_true', List.any_eq_false]
        constructor
        · intro hh
          exact ⟨hup, fun r hr => by have := hh r hr; simpa using this⟩
        · intro hh r hr
          have := hh.2 r hr
          simp [this])
      clear Rr hup hmap
      unfold badFn at HC
      generalize (h.roots.any fun o => !h.valB o) = bb at *
      go_wp2_with fail
      refine HC.out.mono ?_
      rintro e w' ⟨rfl, rfl⟩
      go_wp2_with fail
      go_ret
      exact ⟨!bb, rfl, HS2.out, hb⟩
    | cons b c =>
      have L := HL.out
      rw [HLL.out] at L
      have ho : oopAt a (b :: c) = 2 * posOf a := rfl
      have hp1 : 1 ≤ posOf a := by unfold posOf; omega
      rw [ho]
      have K := L.ok_at
      have hwl : posOf a + 3 + b.x.size ≤ h.words.length := by have := L.words_len; have := K.size; omega
      have hroom := HF.out.room
      have hhi := HF.out.hi
      have hhd := L.hd_at
      have hda := L.hdAt_at
      have HAT := Lib.hid (fun w' => at_any p.g (2 * posOf a) (by omega) (objB_pos a) w')
      rw [half_pos] at HAT
      have HHD := Lib.hid (fun (w' : World) (hb : Below w.heap.size w w') => header_any (HH.out.below hb) HF.out (HS.out.below hb) (posOf a) hda)
      rw [hhd] at HHD
      have hxv : b.x.val = .agg #[.int .i64 b.x.size, .int .i64 b.x.fmt, .int .i64 b.x.spare, .int .u32 b.x.cls, .int .u32 b.x.ser] := rfl
      rw [hxv] at HHD
      unfold ptr at HAT HHD
      clear ho hhd hda hxv
      have hne : ((2 * posOf a : Nat) : Int) ≠ 0 := by omega
      go_wp2_with fail
      refine (HAT.out _).mono ?_
      rintro e w' ⟨rfl, rfl⟩
      go_wp2_with fail
      refine (HHD.out _ hb).mono ?_
      rintro e w1 ⟨rfl, hb1⟩
      have hb2 := below_top hb (hb1.alloc hb1.size (.cells #[.int .i64 b.x.size, .int .i64 b.x.fmt, .int .i64 b.x.spare, .int .u32 b.x.cls, .int .u32 b.x.ser] 75))
      have BX2 := (hbox.below hb1 hbox.lt).alloc (.cells #[.int .i64 b.x.size, .int .i64 b.x.fmt, .int .i64 b.x.spare, .int .u32 b.x.cls, .int .u32 b.x.ser] 75)
      have BH2 := Blk.new w1 75 #[.int .i64 b.x.size, .int .i64 b.x.fmt, .int .i64 b.x.spare, .int .u32 b.x.cls, .int .u32 b.x.ser]
      have MM2 := (hmap.below hb1).below ((Below.refl _ _).alloc (Nat.le_refl _) (.cells #[.int .i64 b.x.size, .int .i64 b.x.fmt, .int .i64 b.x.spare, .int .u32 b.x.cls, .int .u32 b.x.ser] 75))
      have hgH : w.heap.size + 1 < w1.heap.size := by have := hb1.size; have := hmap.lt; omega
      have fx := K.fit
      obtain ⟨fs1, fs2, fs3, fs4, fs5⟩ := fx
      clear hbox hb hb1 hmap bx
      go_upto_region 7 with fail
      generalize w1.alloc (.cells #[.int .i64 b.x.size, .int .i64 b.x.fmt, .int .i64 b.x.spare, .int .u32 b.x.cls, .int .u32 b.x.ser] 75) = W2 at *
      generalize w1.heap.size = gH at *
      go_cut [7] (fun fv wx => ∃ A c', fv = .slice A b.x.size c' ∧ Reads wx w.heap.size 1 A b.x.size (u32s b.fs) ∧ Below W2.heap.size W2 wx)
      case first =>
        have H2 := HH.out.below hb2
        have c0 := H2.c0
        have hcap : h.words.length ≤ p.cw := by obtain ⟨_, _, h1, _⟩ := H2.2.1; simpa [u32s] using h1
        have hcm : p.cw ≤ 9223372036854775807 := by obtain ⟨_, _, _, h1, _⟩ := H2.2.1; unfold maxLen at h1; exact h1
        have bx := BX2.cell 0
        simp only [List.getElem?_toArray, List.getElem?_cons_zero] at bx
        obtain ⟨d0, -, -, -, -⟩ := BH2.cells5
        have hgw := H2.lt (.inr (.inl rfl))
        have RF := Lib.hid (H2.fields L (B := w.heap.size) (HH.out.lt (.inr (.inl rfl))))
        rw [← K.size] at RF
        have hbe := below_drew (Below.refl W2.heap.size W2)
        clear L K H2 BX2 BH2 MM2 hup
        generalize posOf a = q at *
        generalize b.x.size = n at *
        by_cases hcq : p.cw = q + 3
        · have hn0 : n = 0 := by omega
          subst hn0
          have hwl0 : h.words.length = q + 3 := by omega
          have HZ := Lib.hid hcq
          have hq20 : q ≤ 1048576 := by omega
          rw [hcq, hwl0] at c0
          clear hcq hwl hcap hcm hwl0
          have e1 : (q : Int) + 3 ≤ ((q + 3 : Nat) : Int) := by omega
          have e2 : (q : Int) + 3 ≤ (q : Int) + 3 + ((0 : Nat) : Int) := by omega
          have e3 : (q : Int) + 3 + ((0 : Nat) : Int) ≤ ((q + 3 : Nat) : Int) := by omega
          have a1 : IntKind.i64.wrap ((q : Int) + 3) = (q : Int) + 3 := IntWalk.i64_in _ (by omega)
          have a2 : ((q : Int) + 3).toNat = q + 3 := by omega
          have a3 : (0 : Int) ≤ (q : Int) + 3 := by omega
          go_region
          all_goals go_wp2_with fail
          all_goals go_meet
          all_goals exact ⟨_, _, (by first | rfl | rw [Nat.sub_self] | (trace_state; simp)), ⟨RF.out.1, fun h0 => absurd h0 (by decide)⟩, hbe⟩
        · have hne' : ¬ (p.cw = q + 3) := hcq
          have e0 : ¬ (p.cw - (q + 3) = 0) := by omega
          have e1 : (q : Int) + 3 ≤ (p.cw : Int) := by omega
          have e2 : (q : Int) + 3 ≤ (q : Int) + 3 + (n : Int) := by omega
          have e3 : (q : Int) + 3 + (n : Int) ≤ (p.cw : Int) := by omega
          clear hcq
          go_region
          all_goals go_wp2_with fail
          all_goals go_meet
          all_goals exact ⟨_, _, by rw [show q + 3 + n - (q + 3) = n by omega], RF.out.drew, hbe⟩
      case rest =>
        obtain ⟨A, c', rfl, RA, hb3⟩ := hcut
        have hb4 := below_top hb2 hb3
        have BX3 := BX2.below hb3 BX2.lt
        have BH3 := BH2.below hb3 BH2.lt
        have MM3 := MM2.below hb3
        have hcn : cntOf a b.x.ser ≤ 1 := by unfold cntOf; split <;> omega
        have hal : a.length < 9223372036854775807 := by
          have h1 := wsOf_ge a
          have h2 : posOf a = 1 + (wsOf a).length := rfl
          omega
        have hlk := MM3.look sersTy fs5
        obtain ⟨W4, hpt, MM4, hg4⟩ := MM3.put sersTy (v := cntOf a b.x.ser + 1) fs5 (by omega) hal
        rw [show (((cntOf a b.x.ser + 1 : Nat)) : Int) = (cntOf a b.x.ser : Int) + 1 by omega] at hpt
        obtain ⟨d0, d1, d2, d3, d4⟩ := BH3.cells5
        have hb5 := hb4.grown hg4 hb4.size (fun k hk => by cases hk; omega)
        have RA5 : Reads W4 w.heap.size 1 A b.x.size (u32s b.fs) := RA.keep fun q hq => (hb5.cell hq).trans (hb4.cell hq).symm
        have BX5 := BX3.same (hg4.block w.heap.size BX3.lt (by simp))
        have BH5 := BH3.same (hg4.block gH BH3.lt (by intro e; injection e with e; omega))
        have HCN := Lib.hid (show cntOf a b.x.ser = if b.x.ser ∈ a.map (·.x.ser) then 1 else 0 from rfl)
        clear hb2 hb3 BX2 BH2 MM2 BX3 BH3 RA
        go_upto_region 9 with fail
        clear hlk hpt d0 d1 d2 d3 d4 hg4 MM3 hb4
        go_cut [71] (fun v wx => v = .bool (h.badHd a b) ∧ Below W4.heap.size W4 wx)
        case first =>
          have hlk4 := MM4.look sersTy fs5
          rw [show upd (cntOf a) b.x.ser (cntOf a b.x.ser + 1) b.x.ser = cntOf a b.x.ser + 1 by simp [upd]] at hlk4
          have bx := BX5.cell 0
          simp only [List.getElem?_toArray, List.getElem?_cons_zero] at bx
          obtain ⟨d0, d1, d2, d3, d4⟩ := BH5.cells5
          have H5 := HH.out.below hb5
          have c4 := H5.c4
          have hbe := fun n => below_drewN (Below.refl W4.heap.size W4) n
          have HCL := Lib.hid (fun n => class_any (H5.drewN n) HF.out b.x.cls fs4)
          by_cases s0 : b.x.ser = 0
          · have HB := Lib.hid (show h.badHd a b = true by simp [HM.badHd, s0])
            rw [s0] at d4
            clear hlk4 c4 H5 BX5 BH5 MM4 RA5 L K
            go_quiet (fail)
            all_goals go_wp2_with fail
            all_goals go_meet
            all_goals exact ⟨by rw [HB.out], hbe _⟩
          · have e0 : ((b.x.ser : Int) == 0) = false := by simp; omega
            by_cases s1 : h.last < b.x.ser
            · have HB := Lib.hid (show h.badHd a b = true by simp [HM.badHd, s1])
              have e1 : decide (h.last < b.x.ser) = true := by simp; omega
              clear hlk4 H5 BX5 BH5 MM4 RA5 L K s0 s1
              go_quiet (fail)
              all_goals go_wp2_with fail
              all_goals go_meet
              all_goals exact ⟨by rw [HB.out], hbe _⟩
            · have e1 : decide (h.last < b.x.ser) = false := by simp; omega
              by_cases s2 : b.x.ser ∈ a.map (·.x.ser)
              · have HB := Lib.hid (show h.badHd a b = true by simp only [HM.badHd, s2, decide_true, Bool.or_true, Bool.true_or])
                rw [HCN.out, if_pos s2] at hlk4
                have hlk5 : ∀ n, (Instr.lookup 309 (.map (some (w.heap.size + 1))) (.int .u32 (b.x.ser : Int)) false).run Tryz.prog (W4.drewN n) = .ok (.int .i64 2) (W4.drewN n) := fun n => by
                  have := (show MapIs 32 (W4.drewN n) _ _ _ from MM4).look sersTy fs5
                  rw [show upd (cntOf a) b.x.ser (cntOf a b.x.ser + 1) b.x.ser = 2 by simp [upd, HCN.out, s2]] at this
                  exact this
                clear hlk4 H5 BX5 BH5 MM4 RA5 L K s0 s1 s2
                go_quiet (fail)
                all_goals go_wp2_with fail
                all_goals go_meet
                all_goals exact ⟨by rw [HB.out], hbe _⟩
              · have hlk5 : ∀ n, (Instr.lookup 309 (.map (some (w.heap.size + 1))) (.int .u32 (b.x.ser : Int)) false).run Tryz.prog (W4.drewN n) = .ok (.int .i64 1) (W4.drewN n) := fun n => by
                  have := (show MapIs 32 (W4.drewN n) _ _ _ from MM4).look sersTy fs5
                  rw [show upd (cntOf a) b.x.ser (cntOf a b.x.ser + 1) b.x.ser = 1 by simp [upd, HCN.out, s2]] at this
                  exact this
                have HB := Lib.hid (show h.badHd a b = !h.clsB b.x.cls by
                  simp only [HM.badHd, s0, s1, s2, decide_false, Bool.false_or])
                have HC2 := Lib.hid (show ∀ n, Calls Tryz.prog 204 #[.pointer (some ⟨p.g, 0, none⟩), .int .u32 (b.x.cls : Nat)] (W4.drewN n) fun e w' => e = .returned (.bool (h.clsB b.x.cls)) ∧ w' = W4.drewN n from fun n => (HCL.out n).mono fun e w' ⟨h1, h2⟩ => ⟨h1, h2.symm⟩)
                clear hlk4 H5 BX5 BH5 MM4 RA5 L K s0 s1 s2 HCL
                generalize h.clsB b.x.cls = cb at *
                go_quiet ((go_at_call 204; exact Calls.quiet_of_same (HC2.out _)))
                all_goals go_wp2_with fail
                all_goals go_meet
                all_goals exact ⟨by rw [HB.out], hbe _⟩
        case rest =>
          obtain ⟨rfl, hb6⟩ := hcut
          have hb7 := below_top hb5 hb6
          have BX7 := BX5.below hb6 BX5.lt
          have BH7 := BH5.below hb6 BH5.lt
          have MM7 := MM4.below hb6
          have RA7 : Reads wc w.heap.size 1 A b.x.size (u32s b.fs) := RA5.keep fun q hq => (hb7.cell hq).trans (hb5.cell hq).symm
          clear hb6 BX5 BH5 MM4 RA5 hb5
          cases hbad : h.badHd a b
          · obtain ⟨o1, o2, o3, o4⟩ := HM.badHd_ok hbad
            have hcn0 : cntOf a b.x.ser = 0 := by rw [HCN.out, if_neg o3]
            rw [hcn0] at MM7
            have MM8 : MapIs 32 wc (w.heap.size + 1) (a.length + 1) (cntOf (a ++ [b])) := by
              have := MM7
              rw [Nat.zero_add, cnt_snoc o3] at this
              exact this
            have HNX := Lib.hid (fun (w' : World) (hb : Below w.heap.size w w') => next_any (HH.out.below hb) HF.out HL.out.heads (HS.out.below hb) (2 * posOf a) (by omega))
            have hnv : h.nextV (2 * posOf a) = .tuple #[.int .u32 (oopAt (a ++ [b]) c : Nat), .int .i64 0] := by
              unfold HM.nextV
              rw [if_pos ((L.isB_iff _).2 ⟨a, b, c, rfl, rfl⟩), L.nextO_at]
            rw [hnv] at HNX
            unfold ptr at HNX
            have hmay := K.may
            have hsz := K.size
            have h32 := K.f32
            have hmx : b.x.size ≤ 65535 ∧ b.x.spare ≤ 3 ∧ (0 < b.x.spare → 0 < b.x.size) := by
              unfold Hd.may at hmay
              simp only [Bool.and_eq_true, Bool.or_eq_true, decide_eq_true_eq] at hmay
              omega
            have HO := Lib.hid (show b.x.ptrB = (decide (b.x.fmt = 1) || decide (b.x.fmt = 4)) from rfl)
            have HPT := Lib.hid (fun w' => pointers_any b.x K.fit w')
            rw [show b.x.val = .agg #[.int .i64 b.x.size, .int .i64 b.x.fmt, .int .i64 b.x.spare, .int .u32 b.x.cls, .int .u32 b.x.ser] from rfl] at HPT
            obtain ⟨d0, d1, d2, d3, d4⟩ := BH7.cells5
            clear HCN hcn0 hnv hmay MM7 hbad hcn
            by_cases h2 : b.x.fmt = 2
            · have HU := Lib.hid (unpackBytes_any (w := wc) A b.x.size c' w.heap.size b.x.spare b.fs hmx.1 RA7 hb7.size h32 hmx.2.1 hmx.2.2)
              have hpf : b.x.ptrB = false := by rw [HO.out, h2]; rfl
              rw [hpf] at HPT
              rw [h2] at d1 HPT
              have HSZ := Lib.hid hsz
              have H2 := Lib.hid h2
              clear hsz h2
              go_wp2_with fail
              refine HU.out.mono ?_
              rintro e wu hU
              obtain ⟨hbu, v, E, rfl, hV⟩ := UnpB.any hU
              have hb8 := below_top hb7 hbu
              have BX8 := BX7.below hbu BX7.lt
              have BH8 := BH7.below hbu BH7.lt
              have MM9 := MM8.below hbu
              clear d0 d1 d2 d3 d4
              obtain ⟨d0, d1, d2, d3, d4⟩ := BH8.cells5
              rw [H2.out] at d1
              have HUV := Lib.hid hV
              clear hU hV hbu BX7 BH7 MM8 hb7 RA7
              by_cases hE : E = 0
              · subst hE
                have ob : h.ObOk b := ⟨o4, (fun e => by rw [hpf] at e; cases e), (fun _ => by
                  rcases HUV.out with ⟨e, _⟩ | ⟨_, e, _⟩
                  · exact e
                  · cases e), o1, o2⟩
                have OB := Lib.hid ob
                clear ob
                go_wp2_with fail
                refine (HPT.out _).mono ?_
                rintro e wp ⟨rfl, hbp⟩
                have hb9 := below_top hb8 hbp
                have BX9 := BX8.below hbp BX8.lt
                have MM10 := MM9.below hbp
                clear d0 d1 d2 d3 d4 hbp BX8 BH8 MM9 hb8
                have hfin : SoundMid h (w.heap.size + 1) (a ++ [b]) w wp := ⟨hup.snoc OB.out o3, by rw [List.length_append]; exact MM10, hb9⟩
                have HFIN := Lib.hid hfin
                have HBOX := Lib.hid BX9
                have bx := BX9.cell 0
                simp only [List.getElem?_toArray, List.getElem?_cons_zero] at bx
                clear hfin
                go_wp2_with fail
                refine (HNX.out _ hb9).mono ?_
                rintro e wz ⟨rfl, hbz⟩
                have hbzz := below_top hb9 hbz
                have BXZ := HBOX.out.below hbz HBOX.out.lt
                have HFZ := Lib.hid (show SoundMid h (w.heap.size + 1) (a ++ [b]) w wz from ⟨HFIN.out.1, HFIN.out.2.1.below hbz, hbzz⟩)
                clear HFIN HBOX bx
                go_wp2_with fail
                go_roundg (c.length + 1)
                case measure => rw [HGK.out]; simp
                case rel => exact ⟨a ++ [b], c, by rw [HLL.out]; simp, rfl, rfl, HFZ.out, BXZ⟩
              · have HBAD := Lib.hid (show ¬ h.Sound l by
                  rw [HLL.out]
                  refine HM.not_sound_ob fun k => ?_
                  rcases HUV.out with ⟨_, e, _⟩ | ⟨e, _, _⟩
                  · exact hE e
                  · have := k.spare H2.out
                    rw [this] at e
                    cases e)
                have hEn : ¬ ((E : Int) = 0) := by omega
                clear hE d0 d1 d2 d3 d4
                go_wp2_with fail
                go_ret
                exact ⟨false, rfl, ⟨(fun e => by cases e), fun s => absurd s HBAD.out⟩, hb8⟩
            · have hf2 : ((b.x.fmt : Int) == 2) = false := by simp; omega
              cases hpf : b.x.ptrB
              · have OB := Lib.hid (show h.ObOk b from ⟨o4, (fun e => by rw [hpf] at e; cases e), (fun e => absurd e h2), o1, o2⟩)
                rw [hpf] at HPT
                have HSZ := Lib.hid hsz
                clear hsz h2 hpf
                go_wp2_with fail
                refine (HPT.out _).mono ?_
                rintro e wp ⟨rfl, hbp⟩
                have hb9 := below_top hb7 hbp
                have BX9 := BX7.below hbp BX7.lt
                have MM10 := MM8.below hbp
                clear d0 d1 d2 d3 d4 hbp BX7 BH7 MM8 hb7
                have hfin : SoundMid h (w.heap.size + 1) (a ++ [b]) w wp := ⟨hup.snoc OB.out o3, by rw [List.length_append]; exact MM10, hb9⟩
                have HFIN := Lib.hid hfin
                have HBOX := Lib.hid BX9
                have bx := BX9.cell 0
                simp only [List.getElem?_toArray, List.getElem?_cons_zero] at bx
                clear hfin
                go_wp2_with fail
                refine (HNX.out _ hb9).mono ?_
                rintro e wz ⟨rfl, hbz⟩
                have hbzz := below_top hb9 hbz
                have BXZ := HBOX.out.below hbz HBOX.out.lt
                have HFZ := Lib.hid (show SoundMid h (w.heap.size + 1) (a ++ [b]) w wz from ⟨HFIN.out.1, HFIN.out.2.1.below hbz, hbzz⟩)
                clear HFIN HBOX bx
                go_wp2_with fail
                go_roundg (c.length + 1)
                case measure => rw [HGK.out]; simp
                case rel => exact ⟨a ++ [b], c, by rw [HLL.out]; simp, rfl, rfl, HFZ.out, BXZ⟩
              · rw [hpf] at HPT
                have HSZ := Lib.hid hsz
                have H2 := Lib.hid h2
                have HPF := Lib.hid hpf
                clear hsz h2 hpf
                go_wp2_with fail
                refine (HPT.out _).mono ?_
                rintro e wp ⟨rfl, hbp⟩
                have hb9 := below_top hb7 hbp
                have BX9 := BX7.below hbp BX7.lt
                have MM10 := MM8.below hbp
                have RA9 : Reads wp w.heap.size 1 A b.x.size (u32s b.fs) := RA7.keep fun q hq => (hb9.cell hq).trans (hb7.cell hq).symm
                clear d0 d1 d2 d3 d4 hbp BX7 BH7 MM8 hb7 RA7
                go_wp2_with fail
                go_loopw [89] (fun i wq => ∃ k : Nat, k ≤ b.x.size ∧ i = .int .i64 k ∧ (∀ f ∈ b.fs.take k, h.valB f = true) ∧ wq = wp) (fun i _ => b.x.size - (intOf i).toNat)
                case atStart => exact ⟨0, by omega, rfl, (fun f hf => by simp at hf), rfl⟩
                case round =>
                  obtain ⟨k, hk, rfl, hall, rfl⟩ := hrel
                  have HALL := Lib.hid hall
                  clear hall
                  by_cases hlt : k < b.x.size
                  · obtain ⟨ad, u0, rfl, hbl, hx, hcell⟩ := RA9.at_ hlt
                    have hkl : k < b.fs.length := by rw [← HSZ.out]; exact hlt
                    rw [u32s_get hkl] at hx
                    injection hx with hx
                    subst hx
                    have hy : b.fs.getD k 0 < 4294967296 := by
                      rw [List.getD_eq_getElem?_getD, List.getElem?_eq_getElem hkl]
                      exact h32 _ (List.getElem_mem _)
                    have hmem : b.fs.getD k 0 ∈ b.fs := by
                      rw [List.getD_eq_getElem?_getD, List.getElem?_eq_getElem hkl]
                      exact List.getElem_mem _
                    have htk : b.fs.take (k + 1) = b.fs.take k ++ [b.fs.getD k 0] := by
                      rw [List.take_add_one, List.getD_eq_getElem?_getD, List.getElem?_eq_getElem hkl]
                      rfl
                    have HVC := Lib.hid (value_any (HH.out.below hb9) HF.out _ hy)
                    unfold ptr at HVC
                    have bx := BX9.cell 0
                    simp only [List.getElem?_toArray, List.getElem?_cons_zero] at bx
                    cases hv : h.valB (b.fs.getD k 0)
                    · have HBAD := Lib.hid (show ¬ h.Sound l by
                        rw [HLL.out]
                        exact HM.not_sound_ob fun k' => by have := k'.flds HPF.out _ hmem; rw [hv] at this; cases this)
                      rw [hv] at HVC
                      clear hv hmem htk hkl
                      generalize b.fs.getD k 0 = y at *
                      go_wp2_with fail
                      refine HVC.out.mono ?_
                      rintro e w' ⟨rfl, rfl⟩
                      go_wp2_with fail
                      go_ret
                      exact ⟨false, rfl, ⟨(fun e => by cases e), fun s => absurd s HBAD.out⟩, hb9⟩
                    · have HNA := Lib.hid (show ∀ f ∈ b.fs.take (k + 1), h.valB f = true by
                        rw [htk]
                        intro f hf
                        rcases List.mem_append.1 hf with hf | hf
                        · exact HALL.out f hf
                        · simp only [List.mem_cons, List.not_mem_nil, or_false] at hf
                          rw [hf]; exact hv)
                      rw [hv] at HVC
                      clear hv hmem htk hkl
                      generalize b.fs.getD k 0 = y at *
                      go_wp2_with fail
                      refine HVC.out.mono ?_
                      rintro e w' ⟨rfl, rfl⟩
                      go_wp2_with fail
                      go_roundw
                      case rel => exact ⟨k + 1, by omega, by go_num, HNA.out, by first | trivial | rfl⟩
                      case measure => simp [intOf]; omega
                  · obtain rfl : k = b.x.size := by omega
                    have OB := Lib.hid (show h.ObOk b from ⟨o4, (fun _ f hf => HALL.out f (by rw [HSZ.out, List.take_length]; exact hf)), (fun e => absurd e H2.out), o1, o2⟩)
                    have hfin : SoundMid h (w.heap.size + 1) (a ++ [b]) w _ := ⟨hup.snoc OB.out o3, by rw [List.length_append]; exact MM10, hb9⟩
                    have HFIN := Lib.hid hfin
                    have HBOX := Lib.hid BX9
                    have bx := BX9.cell 0
                    simp only [List.getElem?_toArray, List.getElem?_cons_zero] at bx
                    clear hfin
                    go_wp2_with fail
                    refine (HNX.out _ hb9).mono ?_
                    rintro e wz ⟨rfl, hbz⟩
                    have hbzz := below_top hb9 hbz
                    have BXZ := HBOX.out.below hbz HBOX.out.lt
                    have HFZ := Lib.hid (show SoundMid h (w.heap.size + 1) (a ++ [b]) w wz from ⟨HFIN.out.1, HFIN.out.2.1.below hbz, hbzz⟩)
                    clear HFIN HBOX bx
                    go_wp2_with fail
                    go_roundg (c.length + 1)
                    case measure => rw [HGK.out]; simp
                    case rel => exact ⟨a ++ [b], c, by rw [HLL.out]; simp, rfl, rfl, HFZ.out, BXZ⟩
          · have HBAD := Lib.hid (show ¬ h.Sound l by rw [HLL.out]; exact HM.badHd_not hbad)
            clear hbad
            go_wp2_with fail
            go_ret
            exact ⟨false, rfl, ⟨(fun e => by cases e), fun s => absurd s HBAD.out⟩, hb7⟩
end Go.Proofs.YtlkahgagmfhdaaaGreatDoor

namespace Go.Proofs.YtlkahgagmfhdaaaGreatDoor
open Go.RowKit

theorem make_bool (F : Nat) (hF : F ≤ 1048576) (w : World) :
    (Instr.makeSlice 108 (.int .i64 (F : Int)) (.int .i64 (F : Int))).run Tryz.prog w = .ok (.slice (some ⟨w.heap.size, 0, none⟩) F F) (w.alloc (.cells (zcells (.bool false) F) 4)) := by
  obtain ⟨i0, hi0, hz0, hz1, hz2⟩ := info_parts info_bool
  have := run_make_rowN (P := Tryz.prog) 108 4 i0 _ Tryz.underlying108 hi0 hz0 .i64 .i64 F F (Nat.le_refl _) (by rw [hz2]; omega) (by omega) w
  have e : madeCells (Value.bool false).cells (F * 1) = zcells (.bool false) F := by
    apply Array.ext
    · simp [madeCells, zcells, Value.cells]
    · intro i h1 h2
      simp [madeCells, zcells, Value.cells, Nat.mod_one]
  rw [this, hz1, e]
theorem falses_row (w : World) (F : Nat) (hF : F ≤ maxLen) : Row (w.alloc (.cells (zcells (.bool false) F) 4)) w.heap.size 4 F (bools (List.replicate F false)) :=
  ⟨zcells (.bool false) F, Blk.new w _ _, by simp [bools], hF, by simp [zcells], by simp [zcells, bools]⟩

/-- Rows that a call has made so far: words, marks, roots. -/
def HasRow (W w : World) (e : TypeId) (xs : List Value) : Option (Nat × Nat) → Prop
  | none => True
  | some (g, c) => W.heap.size ≤ g ∧ Row w g e c xs
def Acc (W : World) (ws rs : List Nat) (w : World) (a b c : Option (Nat × Nat)) : Prop :=
  Below W.heap.size W w ∧ HasRow W w 32 (u32s ws) a ∧ HasRow W w 4 (bools (List.replicate ws.length false)) b ∧ HasRow W w 54 (u32s rs) c
section
variable {W w w' : World} {ws rs : List Nat} {a b c : Option (Nat × Nat)}
theorem HasRow.below {e : TypeId} {xs : List Value} (h : HasRow W w e xs a) (hb : Below w.heap.size w w') : HasRow W w' e xs a := by
  cases a with
  | none => trivial
  | some x => exact ⟨h.1, h.2.below hb⟩
theorem Acc.start (W : World) (ws rs : List Nat) : Acc W ws rs W.drew none none none := ⟨below_drew (Below.refl _ _), trivial, trivial, trivial⟩
theorem Acc.below (h : Acc W ws rs w a b c) (hb : Below w.heap.size w w') : Acc W ws rs w' a b c :=
  ⟨below_top h.1 hb, h.2.1.below hb, h.2.2.1.below hb, h.2.2.2.below hb⟩
theorem Acc.marks (h : Acc W ws rs w a none c) (hF : ws.length ≤ 1048576) : Acc W ws rs (w.alloc (.cells (zcells (.bool false) ws.length) 4)) a (some (w.heap.size, ws.length)) c := by
  have h2 := h.below ((Below.refl _ _).alloc (Nat.le_refl _) (.cells (zcells (.bool false) ws.length) 4))
  exact ⟨h2.1, h2.2.1, ⟨h.1.size, falses_row w ws.length (by simp only [maxLen]; omega)⟩, h2.2.2.2⟩
end
/-- What the clones answer among those rows. -/
def ClonedW (W : World) (ws rs : List Nat) (b c : Option (Nat × Nat)) (e : Ending) (w' : World) : Prop :=
  ∃ g cap, e = .returned (.slice (some ⟨g, 0, none⟩) ws.length cap) ∧ Acc W ws rs w' (some (g, cap)) b c
def ClonedR (W : World) (ws rs : List Nat) (a b : Option (Nat × Nat)) (e : Ending) (w' : World) : Prop :=
  ∃ g cap, e = .returned (.slice (some ⟨g, 0, none⟩) rs.length cap) ∧ Acc W ws rs w' a b (some (g, cap))
theorem acc_words {W w : World} {ws rs : List Nat} {b c : Option (Nat × Nat)} (h : Acc W ws rs w none b c) (ad : Addr) (n k : Nat) (hr : Reads W W.heap.size 1 (some ad) n (u32s ws)) (hn : 0 < n) (hm : n ≤ 1048576) :
    Calls Tryz.prog 100 #[.slice (some ad) n k] w (ClonedW W ws rs b c) := by
  have hl : ws.length = n := by have := hr.1; rw [u32s_len] at this; omega
  refine (cloneR_u32 ad n k ((hr.below h.1).more h.1.size) (one_u32s _) hn (by omega)).mono ?_
  rintro e w' ⟨g, cap, rfl, hrow, hge, hb⟩
  have h2 := h.below hb
  exact ⟨g, cap, by rw [u32s_len], h2.1, ⟨Nat.le_trans h.1.size hge, hrow⟩, h2.2.2.1, h2.2.2.2⟩
theorem acc_roots {W w : World} {ws rs : List Nat} {a b : Option (Nat × Nat)} (h : Acc W ws rs w a b none) (ad : Addr) (n k : Nat) (hr : Reads W W.heap.size 1 (some ad) n (u32s rs)) (hn : 0 < n) (hm : n ≤ 1048576) :
    Calls Tryz.prog 131 #[.slice (some ad) n k] w (ClonedR W ws rs a b) := by
  have hl : rs.length = n := by have := hr.1; rw [u32s_len] at this; omega
  refine (cloneR_oop ad n k ((hr.below h.1).more h.1.size) (one_u32s _) hn (by omega)).mono ?_
  rintro e w' ⟨g, cap, rfl, hrow, hge, hb⟩
  have h2 := h.below hb
  exact ⟨g, cap, by rw [u32s_len], h2.1, h2.2.1, h2.2.2.1, ⟨Nat.le_trans h.1.size hge, hrow⟩⟩
/-- The box behind them is a heap. -/
theorem Acc.heap {W w : World} {ws rs : List Nat} {g1 c1 g2 c2 g3 c3 : Nat} (h : Acc W ws rs w (some (g1, c1)) (some (g2, c2)) (some (g3, c3))) (size last : Nat) :
    HAt (w.alloc (.cells #[.slice (some ⟨g1, 0, none⟩) ws.length c1, .slice (some ⟨g2, 0, none⟩) ws.length c2, .slice (some ⟨g3, 0, none⟩) rs.length c3, .int .i64 size, .int .u32 last] 110))
      ⟨w.heap.size, g1, c1, g2, c2, g3, c3⟩ ⟨size, ws, List.replicate ws.length false, rs, last⟩ ∧ (∀ k, HP.has ⟨w.heap.size, g1, c1, g2, c2, g3, c3⟩ k → W.heap.size ≤ k) := by
  obtain ⟨hb, ⟨h1, r1⟩, ⟨h2, r2⟩, ⟨h3, r3⟩⟩ := h
  refine ⟨⟨?_, r1.alloc _, r2.alloc _, r3.alloc _⟩, ?_⟩
  · have := Blk.new w 110 #[.slice (some ⟨g1, 0, none⟩) ws.length c1, .slice (some ⟨g2, 0, none⟩) ws.length c2, .slice (some ⟨g3, 0, none⟩) rs.length c3, .int .i64 size, .int .u32 last]
    simp only [List.length_replicate]
    exact this
  · rintro k (rfl | rfl | rfl | rfl)
    · exact hb.size
    · exact h1
    · exact h2
    · exact h3

theorem Acc.close {W w : World} {ws rs : List Nat} {g1 c1 g2 c2 g3 c3 n m : Nat} (h : Acc W ws rs w (some (g1, c1)) (some (g2, c2)) (some (g3, c3))) (size last : Nat) (hn : ws.length = n) (hm : rs.length = m) :
    ∃ p2 : HP, Value.pointer (some ⟨w.heap.size, 0, none⟩) = .pointer (some ⟨p2.g, 0, none⟩) ∧
      HAt (w.alloc (.cells #[.slice (some ⟨g1, 0, none⟩) n c1, .slice (some ⟨g2, 0, none⟩) n c2, .slice (some ⟨g3, 0, none⟩) m c3, .int .i64 size, .int .u32 last] 110)) p2 ⟨size, ws, List.replicate n false, rs, last⟩ ∧
      (∀ k, p2.has k → W.heap.size ≤ k) ∧
      Below W.heap.size W (w.alloc (.cells #[.slice (some ⟨g1, 0, none⟩) n c1, .slice (some ⟨g2, 0, none⟩) n c2, .slice (some ⟨g3, 0, none⟩) m c3, .int .i64 size, .int .u32 last] 110)) := by
  subst hn hm
  obtain ⟨h1, h2⟩ := h.heap size last
  exact ⟨_, rfl, h1, h2, h.1.alloc h.1.size _⟩

/-- A heap's struct is overwritten by that of a new one. -/
theorem HAt.moved {W w : World} {p p2 : HP} {h h2 : HM} (H5 : HAt w p h) (H4 : HAt w p2 h2) (hb : Below W.heap.size W w) (hp : p.g < W.heap.size) (hnew : ∀ k, p2.has k → W.heap.size ≤ k) :
    HAt (((((w.setCell ⟨p.g, 0, none⟩ (.slice (some ⟨p2.gw, 0, none⟩) h2.words.length p2.cw)).setCell ⟨p.g, 1, none⟩ (.slice (some ⟨p2.gs, 0, none⟩) h2.starts.length p2.cs)).setCell ⟨p.g, 2, none⟩ (.slice (some ⟨p2.gr, 0, none⟩) h2.roots.length p2.cr)).setCell ⟨p.g, 3, none⟩ (.int .i64 h2.size)).setCell ⟨p.g, 4, none⟩ (.int .u32 h2.last))
      ⟨p.g, p2.gw, p2.cw, p2.gs, p2.cs, p2.gr, p2.cr⟩ h2 ∧
    Step p ⟨p.g, p2.gw, p2.cw, p2.gs, p2.cs, p2.gr, p2.cr⟩ W (((((w.setCell ⟨p.g, 0, none⟩ (.slice (some ⟨p2.gw, 0, none⟩) h2.words.length p2.cw)).setCell ⟨p.g, 1, none⟩ (.slice (some ⟨p2.gs, 0, none⟩) h2.starts.length p2.cs)).setCell ⟨p.g, 2, none⟩ (.slice (some ⟨p2.gr, 0, none⟩) h2.roots.length p2.cr)).setCell ⟨p.g, 3, none⟩ (.int .i64 h2.size)).setCell ⟨p.g, 4, none⟩ (.int .u32 h2.last)) := by
  have n1 : p2.gw ≠ p.g := fun e => by have := hnew _ (.inr (.inl rfl)); omega
  have n2 : p2.gs ≠ p.g := fun e => by have := hnew _ (.inr (.inr (.inl rfl))); omega
  have n3 : p2.gr ≠ p.g := fun e => by have := hnew _ (.inr (.inr (.inr rfl))); omega
  obtain ⟨-, r1, r2, r3⟩ := H4
  refine ⟨⟨H5.1.setAll5 _ _ _ _ _, ((((r1.far n1 _).far n1 _).far n1 _).far n1 _).far n1 _, ((((r2.far n2 _).far n2 _).far n2 _).far n2 _).far n2 _, ((((r3.far n3 _).far n3 _).far n3 _).far n3 _).far n3 _⟩, ?_⟩
  have s := (((((Step.of_below (p := p) hb).setCell (a := ⟨p.g, 0, none⟩) (.inl (.inl rfl)) (.slice (some ⟨p2.gw, 0, none⟩) h2.words.length p2.cw)).setCell (a := ⟨p.g, 1, none⟩) (.inl (.inl rfl)) (.slice (some ⟨p2.gs, 0, none⟩) h2.starts.length p2.cs)).setCell (a := ⟨p.g, 2, none⟩) (.inl (.inl rfl)) (.slice (some ⟨p2.gr, 0, none⟩) h2.roots.length p2.cr)).setCell (a := ⟨p.g, 3, none⟩) (.inl (.inl rfl)) (.int .i64 h2.size)).setCell (a := ⟨p.g, 4, none⟩) (.inl (.inl rfl)) (.int .u32 h2.last)
  refine ⟨s.os, s.tape, s.output, s.size, s.block, rfl, ?_⟩
  rintro k (hk | hk | hk | hk)
  · exact .inl (.inl hk)
  · exact .inr (hnew _ (.inr (.inl hk)))
  · exact .inr (hnew _ (.inr (.inr (.inl hk))))
  · exact .inr (hnew _ (.inr (.inr (.inr hk))))

/-- The error that Load answers. -/
noncomputable def loadE (size : Nat) (ws rs : List Nat) (last : Nat) : Nat :=
  open Classical in if ws.length = 0 ∨ size < ws.length ∨ rs.length ≠ 64 then 1 else if LoadOk size ws rs last then 0 else 20
/-- The heap that there is behind it. -/
noncomputable def HM.loadH (h : HM) (ws rs : List Nat) (last : Nat) : HM := if loadE h.size ws rs last = 0 then HM.ofWords h.size ws rs last else h

section
variable {size : Nat} {ws rs : List Nat} {last : Nat}
theorem loadE_bad (h : ws.length = 0 ∨ size < ws.length ∨ rs.length ≠ 64) : loadE size ws rs last = 1 := by unfold loadE; rw [if_pos h]
theorem loadE_no (h : ¬ (ws.length = 0 ∨ size < ws.length ∨ rs.length ≠ 64)) (hn : ¬ LoadOk size ws rs last) : loadE size ws rs last = 20 := by unfold loadE; rw [if_neg h, if_neg hn]
theorem loadE_ok (h : ¬ (ws.length = 0 ∨ size < ws.length ∨ rs.length ≠ 64)) (hn : LoadOk size ws rs last) : loadE size ws rs last = 0 := by unfold loadE; rw [if_neg h, if_pos hn]
theorem not_loadOk_of_none (h : parseW ws = none) : ¬ LoadOk size ws rs last := by rintro ⟨l, h1, _⟩; rw [h] at h1; cases h1
theorem loadOk_iff {l : List Ob} (h : parseW ws = some l) : LoadOk size ws rs last ↔ (HM.ofWords size ws rs last).Sound l := by
  constructor
  · rintro ⟨l', h1, h2⟩
    rw [h] at h1
    cases h1
    exact h2
  · exact fun s => ⟨l, h, s⟩
end

set_option maxRecDepth 100000 in
set_option maxHeartbeats 4000000 in
theorem Load_any {w : World} {p : HP} {h : HM} (H : HAt w p h) (f : h.Fit) (hs : Spares w) (hfresh : ∀ k, w.heap.size ≤ k → k ≠ 0 ∧ k ≠ 0)
    (A : Option Addr) (n c : Nat) (ws : List Nat) (hn : n ≤ 9223372036854775807) (hr : Reads w w.heap.size 1 A n (u32s ws)) (h32 : ∀ x ∈ ws, x < 4294967296)
    (A' : Option Addr) (n' c' : Nat) (rs : List Nat) (hn' : n' ≤ 9223372036854775807) (hr' : Reads w w.heap.size 1 A' n' (u32s rs)) (h32' : ∀ x ∈ rs, x < 4294967296) (last : Nat) (hl : last < 4294967296) :
    Calls Tryz.prog 94 #[ptr p.g, .slice A n c, .slice A' n' c', .int .u32 last] w (Made p (h.loadH ws rs last) (.int .i64 (loadE h.size ws rs last : Nat)) w) := by
  have hm := Lib.hid (made_any H (by have := f.lo; omega) f.hi)
  have hlw : ws.length = n := by have := hr.1; rw [u32s_len] at this; omega
  have hlr : rs.length = n' := by have := hr'.1; rw [u32s_len] at this; omega
  have c3 := H.c3
  have hlo := f.lo
  have hhi := f.hi
  have HH := Lib.hid H
  have HLW := Lib.hid hlw
  have HLR := Lib.hid hlr
  unfold ptr at hm ⊢
  by_cases hbad : n = 0 ∨ h.size < n ∨ n' ≠ 64
  · have HE := Lib.hid (show loadE h.size ws rs last = 1 ∧ h.loadH ws rs last = h by
      have e := loadE_bad (size := h.size) (ws := ws) (rs := rs) (last := last) (by rw [hlw, hlr]; exact hbad)
      exact ⟨e, by unfold HM.loadH; rw [if_neg (by omega)]⟩)
    clear H hr hr' h32 h32' hlw hlr
    by_cases hb0 : n = 0
    · have hz : ((n : Int) == 0) = true := by simp; omega
      clear hbad hb0
      go_enter Tryz.func94, Tryz.ntmps94
      go_wp2_with fail
      refine hm.out.mono ?_
      rintro e w' ⟨rfl, rfl⟩
      go_wp2_with fail
      go_ret
      exact ⟨p, by rw [HE.out.1]; rfl, by rw [HE.out.2]; exact HH.out, Step.refl _ _⟩
    · have hz : ((n : Int) == 0) = false := by simp; omega
      by_cases hb1 : h.size < n
      · have hz1 : decide (h.size < n) = true := by simpa using hb1
        clear hbad hb0 hb1
        go_enter Tryz.func94, Tryz.ntmps94
        go_wp2_with fail
        refine hm.out.mono ?_
        rintro e w' ⟨rfl, rfl⟩
        go_wp2_with fail
        go_ret
        exact ⟨p, by rw [HE.out.1]; rfl, by rw [HE.out.2]; exact HH.out, Step.refl _ _⟩
      · have hz1 : decide (h.size < n) = false := by simpa using hb1
        have hz2 : ((n' : Int) != 64) = true := by rw [bne_iff_ne]; omega
        clear hbad hb0 hb1
        go_enter Tryz.func94, Tryz.ntmps94
        go_wp2_with fail
        refine hm.out.mono ?_
        rintro e w' ⟨rfl, rfl⟩
        go_wp2_with fail
        go_ret
        exact ⟨p, by rw [HE.out.1]; rfl, by rw [HE.out.2]; exact HH.out, Step.refl _ _⟩
  · have hnn : 0 < n := by omega
    obtain rfl : n' = 64 := by omega
    obtain ⟨ad, rfl, -, -⟩ := hr.2 hnn
    obtain ⟨ad', rfl, -, -⟩ := hr'.2 (by omega)
    have hz : ((n : Int) == 0) = false := by simp; omega
    have hz1 : decide (h.size < n) = false := by simp; omega
    have hmk := make_bool n (by omega)
    have HCW := Lib.hid (fun (w1 : World) (b c0 : Option (Nat × Nat)) (ha : Acc w ws rs w1 none b c0) => acc_words ha ad n c hr hnn (by omega))
    have HCR := Lib.hid (fun (w1 : World) (a b : Option (Nat × Nat)) (ha : Acc w ws rs w1 a b none) => acc_roots ha ad' 64 c' hr' (by omega) (by omega))
    have HAM := Lib.hid (fun (w1 : World) (a c0 : Option (Nat × Nat)) (ha : Acc w ws rs w1 a none c0) => ha.marks (by omega))
    have A0 := Acc.start w ws rs
    have hpg := H.lt (.inl rfl)
    have HC3 := Lib.hid (fun (w1 : World) (hb : Below w.heap.size w w1) => show w1.cell? ⟨p.g, 3, none⟩ = some (.int .i64 h.size) from (hb.cell hpg).trans c3)
    have HNE := Lib.hid (fun (w1 : World) (hb : Below w.heap.size w w1) => show w1.heap.size ≠ p.g by have := hb.size; omega)
    rw [hlw] at HAM
    have hh32 := h32
    have hhr := h32'
    clear H hr hr' h32 h32' hlw hlr
    go_enter Tryz.func94, Tryz.ntmps94
    go_wp2_with fail
    refine hm.out.mono ?_
    rintro e w' ⟨rfl, rfl⟩
    have HH32 := Lib.hid hh32
    have HHR := Lib.hid hhr
    go_upto_region 3 with fail
    go_cut [9] (fun v wx => ∃ p2 : HP, v = .pointer (some ⟨p2.g, 0, none⟩) ∧ HAt wx p2 ⟨h.size, ws, List.replicate n false, rs, last⟩ ∧ (∀ k, p2.has k → w.heap.size ≤ k) ∧ Below w.heap.size w wx)
    case first =>
      have hne0 : w.heap.size ≠ p.g := by omega
      have hc0 := HC3.out w.drew A0.1
      have hc0a := HC3.out (w.drew.alloc (.cells (zcells (.bool false) n) 4)) (A0.1.alloc A0.1.size _)
      go_region_law (first
        | (go_simp; go_at_call 100; refine (HCW.out _ _ _ (by first | assumption | exact HAM.out _ _ _ (by assumption))).mono ?_; rintro e w1 ⟨g1, cap1, rfl, HA1⟩; rw [HLW.out]; have hc1 := HC3.out _ HA1.1; have hc1a := HC3.out (w1.alloc (.cells (zcells (.bool false) n) 4)) (HA1.1.alloc HA1.1.size _); have hn1 := HNE.out _ HA1.1)
        | (go_simp; go_at_call 131; refine (HCR.out _ _ _ (by first | assumption | exact HAM.out _ _ _ (by assumption))).mono ?_; rintro e w2 ⟨g2, cap2, rfl, HA2⟩; rw [HLR.out]; have hc2 := HC3.out _ HA2.1; have hc2a := HC3.out (w2.alloc (.cells (zcells (.bool false) n) 4)) (HA2.1.alloc HA2.1.size _); have hn2 := HNE.out _ HA2.1))
      all_goals go_wp2_with fail
      all_goals go_meet
      all_goals first
        | exact Acc.close (by assumption) h.size last HLW.out HLR.out
        | (have hcl := Acc.close (HAM.out _ _ _ (by assumption)) h.size last HLW.out HLR.out; rw [World.size_alloc] at hcl; exact hcl)
    case rest =>
      obtain ⟨p2, rfl, H2, hnew, hb2⟩ := hcut
      have hfit : HM.Fit ⟨h.size, ws, List.replicate n false, rs, last⟩ := ⟨hlo, hhi, by show 1 ≤ ws.length; rw [HLW.out]; omega, by show ws.length ≤ h.size; rw [HLW.out]; omega, by show (List.replicate n false).length = ws.length; rw [List.length_replicate, HLW.out], HLR.out, hh32, hhr, hl⟩
      have hbad' : ¬ (ws.length = 0 ∨ h.size < ws.length ∨ rs.length ≠ 64) := by rw [HLW.out, HLR.out]; exact hbad
      have HS2 := hs.below hb2
      have hfar2 : Far p2 := fun k hk => hfresh k (hnew k hk)
      have HLD := Lib.hid (laid_any H2 hfit HS2 hfar2 (by show List.replicate n false = List.replicate ws.length false; rw [HLW.out]))
      unfold ptr at HLD
      have HFIT := Lib.hid hfit
      have HB' := Lib.hid hbad'
      have hno : loadE h.size ws rs last = 20 → (loadE h.size ws rs last = 20 ∧ h.loadH ws rs last = h) := fun e => ⟨e, by unfold HM.loadH; rw [if_neg (by omega)]⟩
      have HNO := Lib.hid hno
      clear hfit hbad' hno hh32 hhr hz hz1 hbad hmk
      go_wp2_with fail
      refine HLD.out.mono ?_
      rintro e w3 ⟨b, rfl, s3, hbf, hbt⟩
      have HBF := Lib.hid hbf
      have HBT := Lib.hid hbt
      clear hbf hbt
      have hb3 := s3.below hb2 hnew
      cases b
      · have HE := Lib.hid (HNO.out (loadE_no HB'.out (not_loadOk_of_none (HBF.out rfl))))
        go_wp2_with fail
        go_ret
        exact ⟨p, by rw [HE.out.1]; rfl, by rw [HE.out.2]; exact HH.out.below hb3, .of_below hb3⟩
      · obtain ⟨l, hpl, H3⟩ := HBT.out rfl
        have HPL := Lib.hid hpl
        have hof : (⟨h.size, ws, false :: msOf l, rs, last⟩ : HM) = HM.ofWords h.size ws rs last := by
          unfold HM.ofWords
          rw [hpl]
          rfl
        have hinv := parseW_inv HH32.out hpl
        have L3 : HM.Laid ⟨h.size, ws, false :: msOf l, rs, last⟩ l := ⟨hinv.1, rfl, hinv.2⟩
        have F3 : HM.Fit ⟨h.size, ws, false :: msOf l, rs, last⟩ := ⟨hlo, hhi, HFIT.out.one, HFIT.out.room, by
          show (false :: msOf l).length = ws.length
          rw [hinv.1]; simp [msOf_len], HLR.out, HH32.out, HHR.out, hl⟩
        have HSN := Lib.hid (sound_any H3 F3 L3 (hs.below hb3))
        unfold ptr at HSN
        have HOF := Lib.hid hof
        have H3' := Lib.hid H3
        clear hpl hof hinv L3 F3 H3 HLD
        go_wp2_with fail
        refine HSN.out.mono ?_
        rintro e w4 ⟨b2, rfl, hiff, hb4⟩
        have HIFF := Lib.hid hiff
        clear hiff
        have hb5 := below_top hb3 hb4
        cases b2
        · have HE := Lib.hid (HNO.out (loadE_no HB'.out (fun ok => by
            have := (loadOk_iff HPL.out).1 ok
            rw [← HOF.out] at this
            exact absurd (HIFF.out.2 this) (by decide))))
          go_wp2_with fail
          go_ret
          exact ⟨p, by rw [HE.out.1]; rfl, by rw [HE.out.2]; exact HH.out.below hb5, .of_below hb5⟩
        · have hok := loadE_ok HB'.out ((loadOk_iff HPL.out).2 (by rw [← HOF.out]; exact HIFF.out.1 rfl))
          have HE := Lib.hid (show loadE h.size ws rs last = 0 ∧ h.loadH ws rs last = HM.ofWords h.size ws rs last from ⟨hok, by unfold HM.loadH; rw [if_pos hok]⟩)
          clear hok
          have H4 := H3'.out.below hb4
          obtain ⟨d0, d1, d2, d3, d4⟩ := H4.1.cells5
          have H5 := HH.out.below hb5
          obtain ⟨e0, e1, e2, e3, e4⟩ := H5.1.cells5
          have ez := H5.1.fz
          have HMV := Lib.hid (H5.moved H4 hb5 hpg hnew)
          have HOF2 := Lib.hid (HE.out.2.trans HOF.out.symm)
          clear H4 H5
          dsimp only at d0 d1 d2 d3 d4 HMV
          go_wp2_with fail
          go_ret
          exact ⟨_, by rw [HE.out.1]; rfl, by rw [HOF2.out]; exact HMV.out.1, HMV.out.2⟩
end Go.Proofs.YtlkahgagmfhdaaaGreatDoor
