/- sound's function literal, slices.IndexFunc and ContainsFunc with it: is there a root that is no value? -/
/- A map of the call's own from words or oops to ints, as a function on numbers. -/
/- (*Heap).sound: is all as a heap keeps it? -/
/- The iterator All of the program's heap: its contract, for every body that keeps what it did not make ahead of the loop. -/
/- All and Find of the program's heap. -/
import Derived.Test.YtkpjkbkglnabiaaGreatDoorOop
import Derived.Test.YtkpjkbkglnabiaaGreatDoorLook
import Derived.Test.YtkpjkbkglnabiaaGreatDoorMem
import Derived.Test.YtkpjkbkglnabiaaGreatDoorJLaid
import Derived.Test.YtkpjkbkglnabiaaGreatDoorCloneH
import Derived.Test.YtkpjkbkglnabiaaGreatDoorLive
import Derived.Maps.Own
import Derived.Maps.Views
import Derived.Carry
import Derived.Deep.DeepCutAuto
import Derived.BigQuiet
import Derived.IntWalk
import Derived.Deep.QuietTactic
import Derived.RangeFuncNested
import Derived.RangeFuncBound
import Derived.RangeFuncCalls
import Derived.RangeFuncLeaves
import Derived.Shelf.Abstract
import Derived.Shelf.RegionOpen
import Derived.WalkKit
import Derived.OwnWalkIn
import Derived.TacticsInMore
import Derived.LoopNIn
import Derived.LoopIn
set_option linter.unusedSectionVars false
set_option linter.unusedVariables false
namespace Go.Proofs.YtkpjkbkglnabiaaGreatDoor
open Go.RowKit

/-- The literal's value: it holds the box of h. -/
def badFn (gb : Nat) : Value := .func (.func 98) #[] #[.pointer (some ⟨gb, 0, none⟩)]

theorem bad_any {w : World} {p : HP} {h : HM} (H : HAt w p h) (f : h.Fit) (gb : Nat) (hb : w.cell? ⟨gb, 0, none⟩ = some (.pointer (some ⟨p.g, 0, none⟩))) (o : Nat) (ho : o < 4294967296) :
    Calls Tryz.prog 98 #[.int .u32 o, .pointer (some ⟨gb, 0, none⟩)] w fun e w' => e = .returned (.bool (!h.valB o)) ∧ w = w' := by
  have HV := Lib.hid (value_any H f o ho)
  clear H f
  unfold ptr at HV
  generalize h.valB o = b at *
  go_enter Tryz.func98, Tryz.ntmps98
  go_wp2_with fail
  refine HV.out.mono ?_
  rintro e w' ⟨rfl, rfl⟩
  go_wp2_with fail
  go_ret
  exact ⟨rfl, rfl⟩

def IdxFP (h : HM) (xs : List Nat) (w : World) (e : Ending) (w' : World) : Prop := ∃ j : Int, e = .returned (.int .i64 j) ∧ (decide (0 ≤ j) = xs.any fun o => !h.valB o) ∧ -1 ≤ j ∧ j ≤ 9223372036854775807 ∧ w = w'
theorem any_take {q : Nat → Bool} {xs : List Nat} {k : Nat} (hk : k < xs.length) (h1 : (xs.take k).any q = false) (h2 : q (xs.getD k 0) = false) : (xs.take (k + 1)).any q = false := by
  rw [List.take_add_one, List.getElem?_eq_getElem hk, List.any_append, h1]
  rw [List.getD_eq_getElem?_getD, List.getElem?_eq_getElem hk] at h2
  simpa using h2
theorem any_at {q : Nat → Bool} {xs : List Nat} {k : Nat} (hk : k < xs.length) (h2 : q (xs.getD k 0) = true) : xs.any q = true := by
  rw [List.any_eq_true]
  rw [List.getD_eq_getElem?_getD, List.getElem?_eq_getElem hk] at h2
  exact ⟨xs[k], List.getElem_mem hk, h2⟩

set_option maxHeartbeats 1000000 in
theorem indexFunc_any {w : World} {p : HP} {h : HM} (H : HAt w p h) (f : h.Fit) (gb : Nat) (hb : w.cell? ⟨gb, 0, none⟩ = some (.pointer (some ⟨p.g, 0, none⟩))) (A : Option Addr) (n c B : Nat) (xs : List Nat) (hn : n ≤ 9223372036854775807)
    (hr : Reads w B 1 A n (u32s xs)) (h32 : ∀ x ∈ xs, x < 4294967296) :
    Calls Tryz.prog 117 #[.slice A n c, badFn gb] w (IdxFP h xs w) := by
  have hl : xs.length = n := by have := hr.1; rw [u32s_len] at this; omega
  have HL := Lib.hid hl; have HR := Lib.hid hr; have HX := Lib.hid h32; have HH := Lib.hid H; have HF := Lib.hid f; have HB := Lib.hid hb
  clear hl hr h32 H f hb
  unfold badFn
  go_enter Tryz.func117, Tryz.ntmps117
  go_wp2_with fail
  go_loop [8] (fun i => ∃ k : Nat, k ≤ n ∧ i = .int .i64 k ∧ (xs.take k).any (fun o => !h.valB o) = false) (fun i => n - (intOf i).toNat)
  case atStart => exact ⟨0, by omega, rfl, by simp⟩
  case round =>
    obtain ⟨k, hk, rfl, hno⟩ := hrel
    have HNO := Lib.hid hno; clear hno
    by_cases hlt : k < n
    · obtain ⟨ad, u0, rfl, _, hx, hcell⟩ := HR.out.at_ hlt
      rw [u32s_get (by rw [HL.out]; exact hlt)] at hx
      injection hx with hx
      subst hx
      have ho : xs.getD k 0 < 4294967296 := by
        rw [List.getD_eq_getElem?_getD, List.getElem?_eq_getElem (by rw [HL.out]; exact hlt)]
        exact HX.out _ (List.getElem_mem _)
      have HC := Lib.hid (bad_any HH.out HF.out gb HB.out (xs.getD k 0) ho)
      cases hv : h.valB (xs.getD k 0)
      · have HA := Lib.hid (any_at (q := fun o => !h.valB o) (by rw [HL.out]; exact hlt) (by simp only [hv]; rfl))
        rw [hv] at HC
        clear hv
        generalize xs.getD k 0 = y at *
        go_wp2_with fail
        refine HC.out.mono ?_
        rintro e w' ⟨rfl, rfl⟩
        go_wp2_with fail
        go_ret
        exact ⟨k, rfl, by rw [HA.out]; simp, by omega, by omega, rfl⟩
      · have HA := Lib.hid (any_take (q := fun o => !h.valB o) (by rw [HL.out]; exact hlt) HNO.out (by simp only [hv]; rfl))
        rw [hv] at HC
        clear hv
        generalize xs.getD k 0 = y at *
        go_wp2_with fail
        refine HC.out.mono ?_
        rintro e w' ⟨rfl, rfl⟩
        go_wp2_with fail
        go_round
        case rel => exact ⟨k + 1, by omega, by go_num, HA.out⟩
        case measure => simp [intOf]; omega
    · obtain rfl : k = n := by omega
      have hall := HNO.out
      rw [List.take_of_length_le (by rw [HL.out]; omega)] at hall
      have HA := Lib.hid hall; clear hall
      go_wp2_with fail
      go_ret
      exact ⟨-1, rfl, by rw [HA.out]; simp, by omega, by omega, rfl⟩

theorem containsFunc_any {w : World} {p : HP} {h : HM} (H : HAt w p h) (f : h.Fit) (gb : Nat) (hb : w.cell? ⟨gb, 0, none⟩ = some (.pointer (some ⟨p.g, 0, none⟩))) (A : Option Addr) (n c B : Nat) (xs : List Nat) (hn : n ≤ 9223372036854775807)
    (hr : Reads w B 1 A n (u32s xs)) (h32 : ∀ x ∈ xs, x < 4294967296) :
    Calls Tryz.prog 97 #[.slice A n c, badFn gb] w fun e w' => e = .returned (.bool (xs.any fun o => !h.valB o)) ∧ w = w' := by
  have HC := Lib.hid (indexFunc_any H f gb hb A n c B xs hn hr h32)
  clear H f hb hr h32
  unfold badFn at HC ⊢
  go_enter Tryz.func97, Tryz.ntmps97
  go_wp2_with fail
  refine HC.out.mono ?_
  rintro e w' ⟨j, rfl, hj, hlo, hhi, rfl⟩
  have HJ := Lib.hid hj; clear hj
  go_wp2_with fail
  go_ret
  exact ⟨by rw [← HJ.out]; rfl, rfl⟩
end Go.Proofs.YtkpjkbkglnabiaaGreatDoor

namespace Go.Proofs.YtkpjkbkglnabiaaGreatDoor
open Go.RowKit Go.Maps

/-- T: a map type with keys K of kind uint32, and ints for elements. -/
structure MapTy (T K : TypeId) : Prop where
  ht : Tryz.prog.underlying T = some (.map K 3)
  hk : Tryz.prog.underlying K = some (.int .u32)
def MapIs (K : TypeId) (w : World) (b n : Nat) (f : Nat → Nat) : Prop :=
  ∃ D : DataW Unit, IsMap D ∧ w.ownsMap Tryz.prog K (plainElem Tryz.prog 3) b n D ∧ ∀ x : Nat, x < 4294967296 → D.atKey (.int .u32 (x : Int)) (.lit (.int .i64 0)) = .lit (.int .i64 (f x : Nat))
def upd (f : Nat → Nat) (x v : Nat) : Nat → Nat := fun y => if y = x then v else f y
theorem zeroInt (w : World) : (zeroValue 3).run Tryz.prog w = .ok (.int .i64 0) w := by kernel_rfl
theorem wf_u32 {x : Nat} (h : x < 4294967296) : (Lit.int .u32 (x : Int)).wf = true := by
  have h1 : IntKind.u32.min = 0 := rfl
  have h2 : IntKind.u32.max = 4294967295 := rfl
  simp [Lit.wf, h1, h2]; omega
theorem wf_i64 {x : Nat} (h : x ≤ 9223372036854775807) : (Lit.int .i64 (x : Int)).wf = true := by
  have h1 : IntKind.i64.min = -9223372036854775808 := rfl
  have h2 : IntKind.i64.max = 9223372036854775807 := rfl
  simp [Lit.wf, h1, h2]; omega

section
variable {T K : TypeId} {w w' : World} {b n : Nat} {f : Nat → Nat}
theorem MapIs.made (w : World) (K : TypeId) : MapIs K (w.alloc (.map #[] 0)) w.heap.size 0 (fun _ => 0) :=
  ⟨.map [], ⟨[], rfl⟩, World.ownsMap_made _ _ _ _, fun x _ => rfl⟩
theorem MapIs.lt (h : MapIs K w b n f) : b < w.heap.size := by obtain ⟨D, _, h, _⟩ := h; exact h.lt
theorem MapIs.same (h : MapIs K w b n f) (hs : w'.heap[b]? = w.heap[b]?) : MapIs K w' b n f := by
  obtain ⟨D, hD, ⟨es, clock, hb, r⟩, hf⟩ := h
  exact ⟨D, hD, ⟨es, clock, hs.trans hb, r⟩, hf⟩
theorem MapIs.below (h : MapIs K w b n f) (hb : Below w.heap.size w w') : MapIs K w' b n f := h.same (hb.block b h.lt)
set_option maxRecDepth 100000 in
theorem MapIs.look (h : MapIs K w b n f) (M : MapTy T K) {x : Nat} (hx : x < 4294967296) : (Instr.lookup T (.map (some b)) (.int .u32 (x : Int)) false).run Tryz.prog w = .ok (.int .i64 (f x : Nat)) w := by
  obtain ⟨D, hD, ho, hf⟩ := h
  obtain ⟨c, hrun, hat, _⟩ := ho.lookup_int (int_keyed M.hk) M.ht Tryz.underlying3 (zeroInt w) (keyOf_int_mk M.hk (wf_u32 hx))
  rw [hf x hx] at hat
  have e : c = (f x : Nat) := by
    simp only [DataW.lit.injEq, Lit.int.injEq, true_and] at hat
    exact hat.symm
  subst e
  exact hrun
set_option maxRecDepth 100000 in
theorem MapIs.put (h : MapIs K w b n f) (M : MapTy T K) {x v : Nat} (hx : x < 4294967296) (hv : v ≤ 9223372036854775807) (hn : n < 9223372036854775807) :
    ∃ w', (Instr.mapUpdate T (.map (some b)) (.int .u32 (x : Int)) (.int .i64 (v : Int))).run Tryz.prog w = .ok () w' ∧ MapIs K w' b (n + 1) (upd f x v) ∧ w.grownBy w' (some b) := by
  obtain ⟨D, hD, ho, hf⟩ := h
  obtain ⟨w', hrun, ho', hg⟩ := ho.update (int_keyed M.hk) M.ht (by unfold maxLen; omega) (keyOf_int_mk M.hk (wf_u32 hx)) (plainElem_int Tryz.underlying3 (wf_i64 hv))
  refine ⟨w', hrun, ⟨_, ?_, ho', fun y hy => ?_⟩, hg⟩
  · exact hD.put _ _
  · unfold upd
    by_cases hyx : y = x
    · subst hyx
      rw [if_pos rfl]
      exact atKey_put_same hD (show WideAt.IsKeyLit (.int .u32 (y : Int)) from trivial) _ _
    · rw [if_neg hyx, atKey_put_other (by intro e; injection e with _ e; omega)]
      exact hf y hy
end
end Go.Proofs.YtkpjkbkglnabiaaGreatDoor

namespace Go.Proofs.YtkpjkbkglnabiaaGreatDoor
open Go.RowKit Go.Maps

structure HM.ObOk (h : HM) (b : Ob) : Prop where
  cls : h.clsB b.x.cls = true
  flds : b.x.ptrB = true → ∀ f ∈ b.fs, h.valB f = true
  spare : b.x.fmt = 2 → spareE b.fs b.x.spare = 0
  lo : 1 ≤ b.x.ser
  hi : b.x.ser ≤ h.last
def HM.UpTo (h : HM) (a : List Ob) : Prop := (∀ b ∈ a, h.ObOk b) ∧ (a.map (·.x.ser)).Nodup
theorem HM.sound_iff (h : HM) (l : List Ob) : h.Sound l ↔ h.UpTo l ∧ ∀ r ∈ h.roots, h.valB r = true :=
  ⟨fun s => ⟨⟨fun b hb => ⟨s.cls b hb, s.flds b hb, s.spare b hb, (s.sers b hb).1, (s.sers b hb).2⟩, s.nodup⟩, s.roots⟩,
   fun s => ⟨fun b hb => (s.1.1 b hb).cls, fun b hb => (s.1.1 b hb).flds, fun b hb => (s.1.1 b hb).spare, fun b hb => ⟨(s.1.1 b hb).lo, (s.1.1 b hb).hi⟩, s.1.2, s.2⟩⟩
theorem HM.not_sound_ob {h : HM} {a c : List Ob} {b : Ob} (hn : ¬ h.ObOk b) : ¬ h.Sound (a ++ b :: c) := fun s => hn (((h.sound_iff _).1 s).1.1 b (by simp))
theorem HM.not_sound_dup {h : HM} {a c : List Ob} {b : Ob} (hn : b.x.ser ∈ a.map (·.x.ser)) : ¬ h.Sound (a ++ b :: c) := fun s => by
  have := s.nodup
  rw [List.map_append, List.map_cons, List.nodup_append] at this
  exact this.2.2 _ hn _ (by simp) rfl
theorem HM.upTo_nil (h : HM) : h.UpTo [] := ⟨(fun _ hb => by cases hb), List.nodup_nil⟩
theorem HM.UpTo.snoc {h : HM} {a : List Ob} {b : Ob} (u : h.UpTo a) (ho : h.ObOk b) (hn : b.x.ser ∉ a.map (·.x.ser)) : h.UpTo (a ++ [b]) := by
  refine ⟨fun y hy => ?_, ?_⟩
  · rcases List.mem_append.1 hy with hy | hy
    · exact u.1 y hy
    · simp only [List.mem_cons, List.not_mem_nil, or_false] at hy
      exact hy ▸ ho
  · rw [List.map_append, List.nodup_append]
    refine ⟨u.2, by simp, ?_⟩
    intro s hs s' hs'
    simp only [List.map_cons, List.map_nil, List.mem_cons, List.not_mem_nil, or_false] at hs'
    subst hs'
    rintro rfl
    exact hn hs

/-- How often a serial was met: once or not at all. -/
def cntOf (a : List Ob) : Nat → Nat := fun x => if x ∈ a.map (·.x.ser) then 1 else 0
theorem cnt_snoc {a : List Ob} {b : Ob} (hn : b.x.ser ∉ a.map (·.x.ser)) : upd (cntOf a) b.x.ser 1 = cntOf (a ++ [b]) := by
  funext y
  unfold upd cntOf
  by_cases hy : y = b.x.ser
  · subst hy; rw [if_pos rfl, if_pos (by simp)]
  · rw [if_neg hy]
    have e : (y ∈ (a ++ [b]).map (·.x.ser)) = (y ∈ a.map (·.x.ser)) := by simp [hy]
    simp only [e]
theorem sersTy : MapTy 136 29 := ⟨Tryz.underlying136, Tryz.underlying29⟩

/-- The oop at which the walk stands: the first of what is ahead, or none. -/
def oopAt (a c : List Ob) : Nat := if c = [] then 0 else 2 * posOf a
theorem HM.Laid.objM_at {h : HM} {a c : List Ob} (L : h.Laid (a ++ c)) : h.objM (posOf a) = oopAt a c := by
  have hw : h.words.length = posOf a + (wsOf c).length := by rw [L.words, wsOf_app]; simp [posOf]; omega
  unfold HM.objM oopAt
  cases c with
  | nil => rw [if_pos (by rw [hw]; simp [wsOf_nil]), if_pos rfl]
  | cons b c =>
    rw [if_neg (by rw [hw, wsOf_cons]; simp [b.ws_len]; omega), if_neg (by simp)]
theorem HM.Laid.nextO_at {h : HM} {a c : List Ob} {b : Ob} (L : h.Laid (a ++ b :: c)) : h.nextO (2 * posOf a) = oopAt (a ++ [b]) c := by
  unfold HM.nextO
  rw [half_pos, L.hd_at, L.ok_at.size, ← posOf_snoc]
  exact HM.Laid.objM_at (by rw [List.append_assoc]; exact L)

/-- An object's fields as they lie in the program's heap. -/
theorem HAt.fields {w : World} {p : HP} {h : HM} {a c : List Ob} {b : Ob} (H : HAt w p h) (L : h.Laid (a ++ b :: c)) {B : Nat} (hB : p.gw < B) : Reads w B 1 (some ⟨p.gw, posOf a + 3, none⟩) b.fs.length (u32s b.fs) :=
  ⟨by simp [u32s_len], fun _ => ⟨_, rfl, hB, fun j u hj => by
    have hjl : j < b.fs.length := by
      rcases Nat.lt_or_ge j b.fs.length with h1 | h1
      · exact h1
      · rw [List.getElem?_eq_none (by rw [u32s_len]; exact h1)] at hj; cases hj
    rw [u32s_get hjl] at hj
    injection hj with hj
    subst hj
    rw [WideShapes.add_plain]
    have hwl := L.words_len
    have := H.word (i := posOf a + 3 + j) (by omega)
    rw [this]
    have e := L.f_at j hjl
    unfold fw at e
    rw [half_pos] at e
    rw [← e]
    rfl⟩⟩

/-- Whether an object's header is none that may follow those objects. -/
def HM.badHd (h : HM) (a : List Ob) (b : Ob) : Bool := decide (b.x.ser = 0) || decide (h.last < b.x.ser) || decide (b.x.ser ∈ a.map (·.x.ser)) || !h.clsB b.x.cls

theorem HM.badHd_not {h : HM} {a c : List Ob} {b : Ob} (hb : h.badHd a b = true) : ¬ h.Sound (a ++ b :: c) := by
  unfold HM.badHd at hb
  simp only [Bool.or_eq_true, decide_eq_true_eq, Bool.not_eq_true'] at hb
  rcases hb with ((hb | hb) | hb) | hb
  · exact HM.not_sound_ob fun k => by have := k.lo; omega
  · exact HM.not_sound_ob fun k => by have := k.hi; omega
  · exact HM.not_sound_dup hb
  · exact HM.not_sound_ob fun k => by have := k.cls; rw [hb] at this; cases this
theorem HM.badHd_ok {h : HM} {a : List Ob} {b : Ob} (hb : h.badHd a b = false) : 1 ≤ b.x.ser ∧ b.x.ser ≤ h.last ∧ b.x.ser ∉ a.map (·.x.ser) ∧ h.clsB b.x.cls = true := by
  unfold HM.badHd at hb
  simp only [Bool.or_eq_false_iff, decide_eq_false_iff_not, Bool.not_eq_false'] at hb
  exact ⟨by omega, by omega, hb.1.2, hb.2⟩

/-- What sound answers. -/
def SoundP (h : HM) (l : List Ob) (w : World) (e : Ending) (w' : World) : Prop := ∃ b : Bool, e = .returned (.bool b) ∧ (b = true ↔ h.Sound l) ∧ Below w.heap.size w w'
def SoundMid (h : HM) (gm : Nat) (a : List Ob) (w wr : World) : Prop := h.UpTo a ∧ MapIs 29 wr gm a.length (cntOf a) ∧ Below w.heap.size w wr

set_option maxRecDepth 100000 in
set_option maxHeartbeats 4000000 in
theorem sound_any {w : World} {p : HP} {h : HM} {l : List Ob} (H : HAt w p h) (f : h.Fit) (L : h.Laid l) (hs : Spares w) :
    Calls Tryz.prog 59 #[ptr p.g] w (SoundP h l w) := by
  have hmm := @run_makeMap Tryz.prog
  have hb0 := fun o => (Below.refl w.heap.size w).alloc (Nat.le_refl _) o
  have hW1 : Below w.heap.size w ((w.alloc (.cells #[.pointer (some ⟨p.g, 0, none⟩)] 23)).alloc (.map #[] 0)) := ((Below.refl _ _).alloc (Nat.le_refl _) _).alloc (by simp) _
  have HB0 := Lib.hid hb0
  have HH := Lib.hid H; have HF := Lib.hid f; have HL := Lib.hid L; have HS := Lib.hid hs
  have HFI := Lib.hid (fun (w' : World) (hb : Below w.heap.size w w') => first_any (H.below hb) f)
  have HFO := Lib.hid (show h.objM 1 = oopAt [] l from HM.Laid.objM_at (a := []) L)
  clear hb0 H f L hs
  unfold ptr at HFI ⊢
  go_enter Tryz.func59, Tryz.ntmps59
  go_wp2_with fail
  refine (HFI.out _ hW1).mono ?_
  rintro e w' ⟨rfl, rfl⟩
  rw [HFO.out]
  have BB := (Blk.new w 23 #[.pointer (some ⟨p.g, 0, none⟩)]).alloc (.map #[] 0)
  have MM := MapIs.made (w.alloc (.cells #[.pointer (some ⟨p.g, 0, none⟩)] 23)) 29
  rw [World.size_alloc] at MM
  generalize hW : (w.alloc (.cells #[.pointer (some ⟨p.g, 0, none⟩)] 23)).alloc (.map #[] 0) = W1 at *
  clear hW
  have HM0 := Lib.hid (show SoundMid h (w.heap.size + 1) [] w W1 from ⟨h.upTo_nil, MM, hW1⟩)
  have HBB := Lib.hid BB
  have HW1 := Lib.hid hW1
  clear BB MM hW1
  go_wp2_with fail
  have hmf : ∀ (fn : Fn) (first cap : Array Value) (w : World), (Instr.makeFunc fn first cap).run Tryz.prog w = .ok (.func fn first cap) w := fun _ _ _ _ => rfl
  have hne0 : w.heap.size ≠ p.gw := by have := HH.out.lt (.inr (.inl rfl)); omega
  go_loopg [4] (l.length + 1) (fun k o wr => ∃ a c, l = a ++ c ∧ k = c.length + 1 ∧ o = .int .u32 (oopAt a c : Nat) ∧ SoundMid h (w.heap.size + 1) a w wr ∧ Blk wr w.heap.size 23 #[.pointer (some ⟨p.g, 0, none⟩)])
  case atStart => exact ⟨[], l, rfl, rfl, rfl, HM0.out, HBB.out⟩
  case round =>
    obtain ⟨a, c, hl, hgk, rfl, ⟨hup, hmap, hb⟩, hbox⟩ := hrel
    have HLL := Lib.hid hl
    have HGK := Lib.hid hgk
    clear HM0 HBB HW1 hl hgk
    have bx := hbox.cell 0
    simp only [List.getElem?_toArray, List.getElem?_cons_zero] at bx
    cases c with
    | nil =>
      have ho : oopAt a [] = 0 := rfl
      rw [ho]
      have Hr := HH.out.below hb
      have c2 := Hr.c2
      have Rr := Hr.2.2.2.reads Hr.2.2.2.lt
      rw [u32s_len] at Rr
      have hrl : h.roots.length ≤ 9223372036854775807 := by rw [HF.out.roots]; omega
      have HC := Lib.hid (containsFunc_any Hr HF.out w.heap.size bx (some ⟨p.gr, 0, none⟩) h.roots.length p.cr _ h.roots hrl Rr HF.out.r32)
      have HS2 := Lib.hid (show (!(h.roots.any fun o => !h.valB o)) = true ↔ h.Sound l by
        rw [h.sound_iff, HLL.out, List.append_nil]
        simp only [Bool.not_eq_true', List.any_eq_false]
        constructor
        · intro hh
          exact ⟨hup, fun r hr => by have := hh r hr; simpa using this⟩
        · intro hh r hr
          have := hh.2 r hr
          simp [this])
      clear Rr hup hmap
      unfold badFn at HC
      generalize (h.roots.any fun o => !h.valB o) = bb at *
      go_wp2_with fail
      refine HC.out.mono ?_
      rintro e w' ⟨rfl, rfl⟩
      go_wp2_with fail
      go_ret
      exact ⟨!bb, rfl, HS2.out, hb⟩
    | cons b c =>
      have L := HL.out
      rw [HLL.out] at L
      have ho : oopAt a (b :: c) = 2 * posOf a := rfl
      have hp1 : 1 ≤ posOf a := by unfold posOf; omega
      rw [ho]
      have K := L.ok_at
      have hwl : posOf a + 3 + b.x.size ≤ h.words.length := by have := L.words_len; have := K.size; omega
      have hroom := HF.out.room
      have hhi := HF.out.hi
      have hhd := L.hd_at
      have hda := L.hdAt_at
      have HAT := Lib.hid (fun w' => at_any p.g (2 * posOf a) (by omega) (objB_pos a) w')
      rw [half_pos] at HAT
      have HHD := Lib.hid (fun (w' : World) (hb : Below w.heap.size w w') => header_any (HH.out.below hb) HF.out (HS.out.below hb) (posOf a) hda)
      rw [hhd] at HHD
      have hxv : b.x.val = .agg #[.int .i64 b.x.size, .int .i64 b.x.fmt, .int .i64 b.x.spare, .int .u32 b.x.cls, .int .u32 b.x.ser] := rfl
      rw [hxv] at HHD
      unfold ptr at HAT HHD
      clear ho hhd hda hxv
      have hne : ((2 * posOf a : Nat) : Int) ≠ 0 := by omega
      go_wp2_with fail
      refine (HAT.out _).mono ?_
      rintro e w' ⟨rfl, rfl⟩
      go_wp2_with fail
      refine (HHD.out _ hb).mono ?_
      rintro e w1 ⟨rfl, hb1⟩
      have hb2 := below_top hb (hb1.alloc hb1.size (.cells #[.int .i64 b.x.size, .int .i64 b.x.fmt, .int .i64 b.x.spare, .int .u32 b.x.cls, .int .u32 b.x.ser] 101))
      have BX2 := (hbox.below hb1 hbox.lt).alloc (.cells #[.int .i64 b.x.size, .int .i64 b.x.fmt, .int .i64 b.x.spare, .int .u32 b.x.cls, .int .u32 b.x.ser] 101)
      have BH2 := Blk.new w1 101 #[.int .i64 b.x.size, .int .i64 b.x.fmt, .int .i64 b.x.spare, .int .u32 b.x.cls, .int .u32 b.x.ser]
      have MM2 := (hmap.below hb1).below ((Below.refl _ _).alloc (Nat.le_refl _) (.cells #[.int .i64 b.x.size, .int .i64 b.x.fmt, .int .i64 b.x.spare, .int .u32 b.x.cls, .int .u32 b.x.ser] 101))
      have hgH : w.heap.size + 1 < w1.heap.size := by have := hb1.size; have := hmap.lt; omega
      have fx := K.fit
      obtain ⟨fs1, fs2, fs3, fs4, fs5⟩ := fx
      clear hbox hb hb1 hmap bx
      go_upto_region 7 with fail
      generalize w1.alloc (.cells #[.int .i64 b.x.size, .int .i64 b.x.fmt, .int .i64 b.x.spare, .int .u32 b.x.cls, .int .u32 b.x.ser] 101) = W2 at *
      generalize w1.heap.size = gH at *
      go_cut [7] (fun fv wx => ∃ A c', fv = .slice A b.x.size c' ∧ Reads wx w.heap.size 1 A b.x.size (u32s b.fs) ∧ Below W2.heap.size W2 wx)
      case first =>
        have H2 := HH.out.below hb2
        have c0 := H2.c0
        have hcap : h.words.length ≤ p.cw := by obtain ⟨_, _, h1, _⟩ := H2.2.1; simpa [u32s] using h1
        have hcm : p.cw ≤ 9223372036854775807 := by obtain ⟨_, _, _, h1, _⟩ := H2.2.1; unfold maxLen at h1; exact h1
        have bx := BX2.cell 0
        simp only [List.getElem?_toArray, List.getElem?_cons_zero] at bx
        obtain ⟨d0, -, -, -, -⟩ := BH2.cells5
        have hgw := H2.lt (.inr (.inl rfl))
        have RF := Lib.hid (H2.fields L (B := w.heap.size) (HH.out.lt (.inr (.inl rfl))))
        rw [← K.size] at RF
        have hbe := below_drew (Below.refl W2.heap.size W2)
        clear L K H2 BX2 BH2 MM2 hup
        generalize posOf a = q at *
        generalize b.x.size = n at *
        by_cases hcq : p.cw = q + 3
        · have hn0 : n = 0 := by omega
          subst hn0
          have hwl0 : h.words.length = q + 3 := by omega
          have HZ := Lib.hid hcq
          have hq20 : q ≤ 1048576 := by omega
          rw [hcq, hwl0] at c0
          clear hcq hwl hcap hcm hwl0
          have e1 : (q : Int) + 3 ≤ ((q + 3 : Nat) : Int) := by omega
          have e2 : (q : Int) + 3 ≤ (q : Int) + 3 + ((0 : Nat) : Int) := by omega
          have e3 : (q : Int) + 3 + ((0 : Nat) : Int) ≤ ((q + 3 : Nat) : Int) := by omega
          have a1 : IntKind.i64.wrap ((q : Int) + 3) = (q : Int) + 3 := IntWalk.i64_in _ (by omega)
          have a2 : ((q : Int) + 3).toNat = q + 3 := by omega
          have a3 : (0 : Int) ≤ (q : Int) + 3 := by omega
          go_region
          all_goals go_wp2_with fail
          all_goals go_meet
          all_goals exact ⟨_, _, (by first | rfl | rw [Nat.sub_self] | (trace_state; simp)), ⟨RF.out.1, fun h0 => absurd h0 (by decide)⟩, hbe⟩
        · have hne' : ¬ (p.cw = q + 3) := hcq
          have e0 : ¬ (p.cw - (q + 3) = 0) := by omega
          have e1 : (q : Int) + 3 ≤ (p.cw : Int) := by omega
          have e2 : (q : Int) + 3 ≤ (q : Int) + 3 + (n : Int) := by omega
          have e3 : (q : Int) + 3 + (n : Int) ≤ (p.cw : Int) := by omega
          clear hcq
          go_region
          all_goals go_wp2_with fail
          all_goals go_meet
          all_goals exact ⟨_, _, by rw [show q + 3 + n - (q + 3) = n by omega], RF.out.drew, hbe⟩
      case rest =>
        obtain ⟨A, c', rfl, RA, hb3⟩ := hcut
        have hb4 := below_top hb2 hb3
        have BX3 := BX2.below hb3 BX2.lt
        have BH3 := BH2.below hb3 BH2.lt
        have MM3 := MM2.below hb3
        have hcn : cntOf a b.x.ser ≤ 1 := by unfold cntOf; split <;> omega
        have hal : a.length < 9223372036854775807 := by
          have h1 := wsOf_ge a
          have h2 : posOf a = 1 + (wsOf a).length := rfl
          omega
        have hlk := MM3.look sersTy fs5
        obtain ⟨W4, hpt, MM4, hg4⟩ := MM3.put sersTy (v := cntOf a b.x.ser + 1) fs5 (by omega) hal
        rw [show (((cntOf a b.x.ser + 1 : Nat)) : Int) = (cntOf a b.x.ser : Int) + 1 by omega] at hpt
        obtain ⟨d0, d1, d2, d3, d4⟩ := BH3.cells5
        have hb5 := hb4.grown hg4 hb4.size (fun k hk => by cases hk; omega)
        have RA5 : Reads W4 w.heap.size 1 A b.x.size (u32s b.fs) := RA.keep fun q hq => (hb5.cell hq).trans (hb4.cell hq).symm
        have BX5 := BX3.same (hg4.block w.heap.size BX3.lt (by simp))
        have BH5 := BH3.same (hg4.block gH BH3.lt (by intro e; injection e with e; omega))
        have HCN := Lib.hid (show cntOf a b.x.ser = if b.x.ser ∈ a.map (·.x.ser) then 1 else 0 from rfl)
        clear hb2 hb3 BX2 BH2 MM2 BX3 BH3 RA
        go_upto_region 9 with fail
        clear hlk hpt d0 d1 d2 d3 d4 hg4 MM3 hb4
        go_cut [71] (fun v wx => v = .bool (h.badHd a b) ∧ Below W4.heap.size W4 wx)
        case first =>
          have hlk4 := MM4.look sersTy fs5
          rw [show upd (cntOf a) b.x.ser (cntOf a b.x.ser + 1) b.x.ser = cntOf a b.x.ser + 1 by simp [upd]] at hlk4
          have bx := BX5.cell 0
          simp only [List.getElem?_toArray, List.getElem?_cons_zero] at bx
          obtain ⟨d0, d1, d2, d3, d4⟩ := BH5.cells5
          have H5 := HH.out.below hb5
          have c4 := H5.c4
          have hbe := fun n => below_drewN (Below.refl W4.heap.size W4) n
          have HCL := Lib.hid (fun n => class_any (H5.drewN n) HF.out b.x.cls fs4)
          by_cases s0 : b.x.ser = 0
          · have HB := Lib.hid (show h.badHd a b = true by simp [HM.badHd, s0])
            rw [s0] at d4
            clear hlk4 c4 H5 BX5 BH5 MM4 RA5 L K
            go_quiet (fail)
            all_goals go_wp2_with fail
            all_goals go_meet
            all_goals exact ⟨by rw [HB.out], hbe _⟩
          · have e0 : ((b.x.ser : Int) == 0) = false := by simp; omega
            by_cases s1 : h.last < b.x.ser
            · have HB := Lib.hid (show h.badHd a b = true by simp [HM.badHd, s1])
              have e1 : decide (h.last < b.x.ser) = true := by simp; omega
              clear hlk4 H5 BX5 BH5 MM4 RA5 L K s0 s1
              go_quiet (fail)
              all_goals go_wp2_with fail
              all_goals go_meet
              all_goals exact ⟨by rw [HB.out], hbe _⟩
            · have e1 : decide (h.last < b.x.ser) = false := by simp; omega
              by_cases s2 : b.x.ser ∈ a.map (·.x.ser)
              · have HB := Lib.hid (show h.badHd a b = true by simp only [HM.badHd, s2, decide_true, Bool.or_true, Bool.true_or])
                rw [HCN.out, if_pos s2] at hlk4
                have hlk5 : ∀ n, (Instr.lookup 136 (.map (some (w.heap.size + 1))) (.int .u32 (b.x.ser : Int)) false).run Tryz.prog (W4.drewN n) = .ok (.int .i64 2) (W4.drewN n) := fun n => by
                  have := (show MapIs 29 (W4.drewN n) _ _ _ from MM4).look sersTy fs5
                  rw [show upd (cntOf a) b.x.ser (cntOf a b.x.ser + 1) b.x.ser = 2 by simp [upd, HCN.out, s2]] at this
                  exact this
                clear hlk4 H5 BX5 BH5 MM4 RA5 L K s0 s1 s2
                go_quiet (fail)
                all_goals go_wp2_with fail
                all_goals go_meet
                all_goals exact ⟨by rw [HB.out], hbe _⟩
              · have hlk5 : ∀ n, (Instr.lookup 136 (.map (some (w.heap.size + 1))) (.int .u32 (b.x.ser : Int)) false).run Tryz.prog (W4.drewN n) = .ok (.int .i64 1) (W4.drewN n) := fun n => by
                  have := (show MapIs 29 (W4.drewN n) _ _ _ from MM4).look sersTy fs5
                  rw [show upd (cntOf a) b.x.ser (cntOf a b.x.ser + 1) b.x.ser = 1 by simp [upd, HCN.out, s2]] at this
                  exact this
                have HB := Lib.hid (show h.badHd a b = !h.clsB b.x.cls by
                  simp only [HM.badHd, s0, s1, s2, decide_false, Bool.false_or])
                have HC2 := Lib.hid (show ∀ n, Calls Tryz.prog 84 #[.pointer (some ⟨p.g, 0, none⟩), .int .u32 (b.x.cls : Nat)] (W4.drewN n) fun e w' => e = .returned (.bool (h.clsB b.x.cls)) ∧ w' = W4.drewN n from fun n => (HCL.out n).mono fun e w' ⟨h1, h2⟩ => ⟨h1, h2.symm⟩)
                clear hlk4 H5 BX5 BH5 MM4 RA5 L K s0 s1 s2 HCL
                generalize h.clsB b.x.cls = cb at *
                go_quiet ((go_at_call 84; exact Calls.quiet_of_same (HC2.out _)))
                all_goals go_wp2_with fail
                all_goals go_meet
                all_goals exact ⟨by rw [HB.out], hbe _⟩
        case rest =>
          obtain ⟨rfl, hb6⟩ := hcut
          have hb7 := below_top hb5 hb6
          have BX7 := BX5.below hb6 BX5.lt
          have BH7 := BH5.below hb6 BH5.lt
          have MM7 := MM4.below hb6
          have RA7 : Reads wc w.heap.size 1 A b.x.size (u32s b.fs) := RA5.keep fun q hq => (hb7.cell hq).trans (hb5.cell hq).symm
          clear hb6 BX5 BH5 MM4 RA5 hb5
          cases hbad : h.badHd a b
          · obtain ⟨o1, o2, o3, o4⟩ := HM.badHd_ok hbad
            have hcn0 : cntOf a b.x.ser = 0 := by rw [HCN.out, if_neg o3]
            rw [hcn0] at MM7
            have MM8 : MapIs 29 wc (w.heap.size + 1) (a.length + 1) (cntOf (a ++ [b])) := by
              have := MM7
              rw [Nat.zero_add, cnt_snoc o3] at this
              exact this
            have HNX := Lib.hid (fun (w' : World) (hb : Below w.heap.size w w') => next_any (HH.out.below hb) HF.out HL.out.heads (HS.out.below hb) (2 * posOf a) (by omega))
            have hnv : h.nextV (2 * posOf a) = .tuple #[.int .u32 (oopAt (a ++ [b]) c : Nat), .int .i64 0] := by
              unfold HM.nextV
              rw [if_pos ((L.isB_iff _).2 ⟨a, b, c, rfl, rfl⟩), L.nextO_at]
            rw [hnv] at HNX
            unfold ptr at HNX
            have hmay := K.may
            have hsz := K.size
            have h32 := K.f32
            have hmx : b.x.size ≤ 65535 ∧ b.x.spare ≤ 3 ∧ (0 < b.x.spare → 0 < b.x.size) := by
              unfold Hd.may at hmay
              simp only [Bool.and_eq_true, Bool.or_eq_true, decide_eq_true_eq] at hmay
              omega
            have HO := Lib.hid (show b.x.ptrB = (decide (b.x.fmt = 1) || decide (b.x.fmt = 4)) from rfl)
            have HPT := Lib.hid (fun w' => pointers_any b.x K.fit w')
            rw [show b.x.val = .agg #[.int .i64 b.x.size, .int .i64 b.x.fmt, .int .i64 b.x.spare, .int .u32 b.x.cls, .int .u32 b.x.ser] from rfl] at HPT
            obtain ⟨d0, d1, d2, d3, d4⟩ := BH7.cells5
            clear HCN hcn0 hnv hmay MM7 hbad hcn
            by_cases h2 : b.x.fmt = 2
            · have HU := Lib.hid (unpackBytes_any (w := wc) A b.x.size c' w.heap.size b.x.spare b.fs hmx.1 RA7 hb7.size h32 hmx.2.1 hmx.2.2)
              have hpf : b.x.ptrB = false := by rw [HO.out, h2]; rfl
              rw [hpf] at HPT
              rw [h2] at d1 HPT
              have HSZ := Lib.hid hsz
              have H2 := Lib.hid h2
              clear hsz h2
              go_wp2_with fail
              refine HU.out.mono ?_
              rintro e wu hU
              obtain ⟨hbu, v, E, rfl, hV⟩ := UnpB.any hU
              have hb8 := below_top hb7 hbu
              have BX8 := BX7.below hbu BX7.lt
              have BH8 := BH7.below hbu BH7.lt
              have MM9 := MM8.below hbu
              clear d0 d1 d2 d3 d4
              obtain ⟨d0, d1, d2, d3, d4⟩ := BH8.cells5
              rw [H2.out] at d1
              have HUV := Lib.hid hV
              clear hU hV hbu BX7 BH7 MM8 hb7 RA7
              by_cases hE : E = 0
              · subst hE
                have ob : h.ObOk b := ⟨o4, (fun e => by rw [hpf] at e; cases e), (fun _ => by
                  rcases HUV.out with ⟨e, _⟩ | ⟨_, e, _⟩
                  · exact e
                  · cases e), o1, o2⟩
                have OB := Lib.hid ob
                clear ob
                go_wp2_with fail
                refine (HPT.out _).mono ?_
                rintro e wp ⟨rfl, hbp⟩
                have hb9 := below_top hb8 hbp
                have BX9 := BX8.below hbp BX8.lt
                have MM10 := MM9.below hbp
                clear d0 d1 d2 d3 d4 hbp BX8 BH8 MM9 hb8
                have hfin : SoundMid h (w.heap.size + 1) (a ++ [b]) w wp := ⟨hup.snoc OB.out o3, by rw [List.length_append]; exact MM10, hb9⟩
                have HFIN := Lib.hid hfin
                have HBOX := Lib.hid BX9
                have bx := BX9.cell 0
                simp only [List.getElem?_toArray, List.getElem?_cons_zero] at bx
                clear hfin
                go_wp2_with fail
                refine (HNX.out _ hb9).mono ?_
                rintro e wz ⟨rfl, hbz⟩
                have hbzz := below_top hb9 hbz
                have BXZ := HBOX.out.below hbz HBOX.out.lt
                have HFZ := Lib.hid (show SoundMid h (w.heap.size + 1) (a ++ [b]) w wz from ⟨HFIN.out.1, HFIN.out.2.1.below hbz, hbzz⟩)
                clear HFIN HBOX bx
                go_wp2_with fail
                go_roundg (c.length + 1)
                case measure => rw [HGK.out]; simp
                case rel => exact ⟨a ++ [b], c, by rw [HLL.out]; simp, rfl, rfl, HFZ.out, BXZ⟩
              · have HBAD := Lib.hid (show ¬ h.Sound l by
                  rw [HLL.out]
                  refine HM.not_sound_ob fun k => ?_
                  rcases HUV.out with ⟨_, e, _⟩ | ⟨e, _, _⟩
                  · exact hE e
                  · have := k.spare H2.out
                    rw [this] at e
                    cases e)
                have hEn : ¬ ((E : Int) = 0) := by omega
                clear hE d0 d1 d2 d3 d4
                go_wp2_with fail
                go_ret
                exact ⟨false, rfl, ⟨(fun e => by cases e), fun s => absurd s HBAD.out⟩, hb8⟩
            · have hf2 : ((b.x.fmt : Int) == 2) = false := by simp; omega
              cases hpf : b.x.ptrB
              · have OB := Lib.hid (show h.ObOk b from ⟨o4, (fun e => by rw [hpf] at e; cases e), (fun e => absurd e h2), o1, o2⟩)
                rw [hpf] at HPT
                have HSZ := Lib.hid hsz
                clear hsz h2 hpf
                go_wp2_with fail
                refine (HPT.out _).mono ?_
                rintro e wp ⟨rfl, hbp⟩
                have hb9 := below_top hb7 hbp
                have BX9 := BX7.below hbp BX7.lt
                have MM10 := MM8.below hbp
                clear d0 d1 d2 d3 d4 hbp BX7 BH7 MM8 hb7
                have hfin : SoundMid h (w.heap.size + 1) (a ++ [b]) w wp := ⟨hup.snoc OB.out o3, by rw [List.length_append]; exact MM10, hb9⟩
                have HFIN := Lib.hid hfin
                have HBOX := Lib.hid BX9
                have bx := BX9.cell 0
                simp only [List.getElem?_toArray, List.getElem?_cons_zero] at bx
                clear hfin
                go_wp2_with fail
                refine (HNX.out _ hb9).mono ?_
                rintro e wz ⟨rfl, hbz⟩
                have hbzz := below_top hb9 hbz
                have BXZ := HBOX.out.below hbz HBOX.out.lt
                have HFZ := Lib.hid (show SoundMid h (w.heap.size + 1) (a ++ [b]) w wz from ⟨HFIN.out.1, HFIN.out.2.1.below hbz, hbzz⟩)
                clear HFIN HBOX bx
                go_wp2_with fail
                go_roundg (c.length + 1)
                case measure => rw [HGK.out]; simp
                case rel => exact ⟨a ++ [b], c, by rw [HLL.out]; simp, rfl, rfl, HFZ.out, BXZ⟩
              · rw [hpf] at HPT
                have HSZ := Lib.hid hsz
                have H2 := Lib.hid h2
                have HPF := Lib.hid hpf
                clear hsz h2 hpf
                go_wp2_with fail
                refine (HPT.out _).mono ?_
                rintro e wp ⟨rfl, hbp⟩
                have hb9 := below_top hb7 hbp
                have BX9 := BX7.below hbp BX7.lt
                have MM10 := MM8.below hbp
                have RA9 : Reads wp w.heap.size 1 A b.x.size (u32s b.fs) := RA7.keep fun q hq => (hb9.cell hq).trans (hb7.cell hq).symm
                clear d0 d1 d2 d3 d4 hbp BX7 BH7 MM8 hb7 RA7
                go_wp2_with fail
                go_loopw [89] (fun i wq => ∃ k : Nat, k ≤ b.x.size ∧ i = .int .i64 k ∧ (∀ f ∈ b.fs.take k, h.valB f = true) ∧ wq = wp) (fun i _ => b.x.size - (intOf i).toNat)
                case atStart => exact ⟨0, by omega, rfl, (fun f hf => by simp at hf), rfl⟩
                case round =>
                  obtain ⟨k, hk, rfl, hall, rfl⟩ := hrel
                  have HALL := Lib.hid hall
                  clear hall
                  by_cases hlt : k < b.x.size
                  · obtain ⟨ad, u0, rfl, hbl, hx, hcell⟩ := RA9.at_ hlt
                    have hkl : k < b.fs.length := by rw [← HSZ.out]; exact hlt
                    rw [u32s_get hkl] at hx
                    injection hx with hx
                    subst hx
                    have hy : b.fs.getD k 0 < 4294967296 := by
                      rw [List.getD_eq_getElem?_getD, List.getElem?_eq_getElem hkl]
                      exact h32 _ (List.getElem_mem _)
                    have hmem : b.fs.getD k 0 ∈ b.fs := by
                      rw [List.getD_eq_getElem?_getD, List.getElem?_eq_getElem hkl]
                      exact List.getElem_mem _
                    have htk : b.fs.take (k + 1) = b.fs.take k ++ [b.fs.getD k 0] := by
                      rw [List.take_add_one, List.getD_eq_getElem?_getD, List.getElem?_eq_getElem hkl]
                      rfl
                    have HVC := Lib.hid (value_any (HH.out.below hb9) HF.out _ hy)
                    unfold ptr at HVC
                    have bx := BX9.cell 0
                    simp only [List.getElem?_toArray, List.getElem?_cons_zero] at bx
                    cases hv : h.valB (b.fs.getD k 0)
                    · have HBAD := Lib.hid (show ¬ h.Sound l by
                        rw [HLL.out]
                        exact HM.not_sound_ob fun k' => by have := k'.flds HPF.out _ hmem; rw [hv] at this; cases this)
                      rw [hv] at HVC
                      clear hv hmem htk hkl
                      generalize b.fs.getD k 0 = y at *
                      go_wp2_with fail
                      refine HVC.out.mono ?_
                      rintro e w' ⟨rfl, rfl⟩
                      go_wp2_with fail
                      go_ret
                      exact ⟨false, rfl, ⟨(fun e => by cases e), fun s => absurd s HBAD.out⟩, hb9⟩
                    · have HNA := Lib.hid (show ∀ f ∈ b.fs.take (k + 1), h.valB f = true by
                        rw [htk]
                        intro f hf
                        rcases List.mem_append.1 hf with hf | hf
                        · exact HALL.out f hf
                        · simp only [List.mem_cons, List.not_mem_nil, or_false] at hf
                          rw [hf]; exact hv)
                      rw [hv] at HVC
                      clear hv hmem htk hkl
                      generalize b.fs.getD k 0 = y at *
                      go_wp2_with fail
                      refine HVC.out.mono ?_
                      rintro e w' ⟨rfl, rfl⟩
                      go_wp2_with fail
                      go_roundw
                      case rel => exact ⟨k + 1, by omega, by go_num, HNA.out, by first | trivial | rfl⟩
                      case measure => simp [intOf]; omega
                  · obtain rfl : k = b.x.size := by omega
                    have OB := Lib.hid (show h.ObOk b from ⟨o4, (fun _ f hf => HALL.out f (by rw [HSZ.out, List.take_length]; exact hf)), (fun e => absurd e H2.out), o1, o2⟩)
                    have hfin : SoundMid h (w.heap.size + 1) (a ++ [b]) w _ := ⟨hup.snoc OB.out o3, by rw [List.length_append]; exact MM10, hb9⟩
                    have HFIN := Lib.hid hfin
                    have HBOX := Lib.hid BX9
                    have bx := BX9.cell 0
                    simp only [List.getElem?_toArray, List.getElem?_cons_zero] at bx
                    clear hfin
                    go_wp2_with fail
                    refine (HNX.out _ hb9).mono ?_
                    rintro e wz ⟨rfl, hbz⟩
                    have hbzz := below_top hb9 hbz
                    have BXZ := HBOX.out.below hbz HBOX.out.lt
                    have HFZ := Lib.hid (show SoundMid h (w.heap.size + 1) (a ++ [b]) w wz from ⟨HFIN.out.1, HFIN.out.2.1.below hbz, hbzz⟩)
                    clear HFIN HBOX bx
                    go_wp2_with fail
                    go_roundg (c.length + 1)
                    case measure => rw [HGK.out]; simp
                    case rel => exact ⟨a ++ [b], c, by rw [HLL.out]; simp, rfl, rfl, HFZ.out, BXZ⟩
          · have HBAD := Lib.hid (show ¬ h.Sound l by rw [HLL.out]; exact HM.badHd_not hbad)
            clear hbad
            go_wp2_with fail
            go_ret
            exact ⟨false, rfl, ⟨(fun e => by cases e), fun s => absurd s HBAD.out⟩, hb7⟩
end Go.Proofs.YtkpjkbkglnabiaaGreatDoor

namespace Go.Proofs.YtkpjkbkglnabiaaGreatDoor
open Go.RowKit
attribute [local go_sem] Oper.semAt_some

/-- What a round keeps: every block of cells but those from m0 to n0 (the caller's own variables). -/
structure KpB (m0 n0 : Nat) (w w' : World) : Prop where
  os : w'.os = w.os
  tape : w'.tape = w.tape
  output : w'.output = w.output
  size : w.heap.size ≤ w'.heap.size
  cells : ∀ k cs t fr, k < m0 ∨ n0 ≤ k → w.heap[k]? = some (.cells cs t fr) → w'.heap[k]? = some (.cells cs t fr)
theorem KpB.refl (m0 n0 : Nat) (w : World) : KpB m0 n0 w w := ⟨rfl, rfl, rfl, Nat.le_refl _, fun _ _ _ _ _ h => h⟩
theorem KpB.trans {m0 n0 : Nat} {a b c : World} (h : KpB m0 n0 a b) (k : KpB m0 n0 b c) : KpB m0 n0 a c :=
  ⟨k.os.trans h.os, k.tape.trans h.tape, k.output.trans h.output, Nat.le_trans h.size k.size, fun j cs t fr hj h1 => k.cells j cs t fr hj (h.cells j cs t fr hj h1)⟩
theorem lt_of_get {w : World} {k : Nat} {o : Obj} (h : w.heap[k]? = some o) : k < w.heap.size := by
  rcases Nat.lt_or_ge k w.heap.size with h1 | h1
  · exact h1
  · rw [Array.getElem?_eq_none h1] at h; cases h
theorem KpB.of_below {m0 n0 : Nat} {w w' : World} (h : Below w.heap.size w w') : KpB m0 n0 w w' :=
  ⟨h.os, h.tape, h.output, h.size, fun k cs t fr _ hk => (h.block k (lt_of_get hk)).trans hk⟩
theorem KpB.drew {m0 n0 : Nat} {w w' : World} (h : KpB m0 n0 w w') : KpB m0 n0 w w'.drew := ⟨h.os, h.tape, h.output, h.size, h.cells⟩
theorem KpB.alloc {m0 n0 : Nat} {w w' : World} (h : KpB m0 n0 w w') (o : Obj) : KpB m0 n0 w (w'.alloc o) := h.trans (.of_below (below_alloc1' (Below.refl _ _)))
where below_alloc1' {W w : World} {o : Obj} (h : Below W.heap.size W w) : Below W.heap.size W (w.alloc o) := h.alloc h.size o
theorem KpB.setCell {m0 n0 : Nat} {w w' : World} (h : KpB m0 n0 w w') {a : Addr} (h1 : m0 ≤ a.block) (h2 : a.block < n0) (u : Value) : KpB m0 n0 w (w'.setCell a u) :=
  ⟨h.os, h.tape, h.output, by simpa [World.setCell] using h.size, fun k cs t fr hk hh => (Below.heap_setCell w' a u k (fun e => by omega)).trans (h.cells k cs t fr hk hh)⟩
theorem KpB.book {m0 n0 : Nat} (W : World) (l : Nat) (o o' : Obj) (h : W.heap[l]? = some o) (hc : o.isCells = false) : KpB m0 n0 W (W.putObj l o') :=
  ⟨rfl, rfl, rfl, by simp, fun k cs t fr _ hk => by
    have hne : k ≠ l := by rintro rfl; rw [hk] at h; injection h with h; subst h; simp [Obj.isCells] at hc
    exact ((grownBy_putObj' W l o').block k (lt_of_get hk) (fun e => hne (by injection e))).trans hk⟩
theorem Blk.kept {m0 n0 : Nat} {w w' : World} {g : Nat} {t : TypeId} {cs : Array Value} (h : Blk w g t cs) (k : KpB m0 n0 w w') (hg : g < m0 ∨ n0 ≤ g) : Blk w' g t cs := k.cells g cs t (0, 0) hg h
theorem Row.kept {m0 n0 : Nat} {w w' : World} {g c : Nat} {e : TypeId} {xs : List Value} (h : Row w g e c xs) (k : KpB m0 n0 w w') (hg : g < m0 ∨ n0 ≤ g) : Row w' g e c xs := by
  obtain ⟨cur, h, r⟩ := h
  exact ⟨cur, h.kept k hg, r⟩
theorem HAt.kept {m0 n0 : Nat} {w w' : World} {p : HP} {h : HM} (H : HAt w p h) (k : KpB m0 n0 w w') (hp : ∀ j, p.has j → j < m0 ∨ n0 ≤ j) : HAt w' p h :=
  ⟨H.1.kept k (hp _ (.inl rfl)), H.2.1.kept k (hp _ (.inr (.inl rfl))), H.2.2.1.kept k (hp _ (.inr (.inr (.inl rfl)))), H.2.2.2.kept k (hp _ (.inr (.inr (.inr rfl))))⟩

/-- The k-th object's oop; 0 behind the last one. -/
def oopI (l : List Ob) (k : Nat) : Nat := if k < l.length then 2 * posOf (l.take k) else 0
/-- What All hands out of the k-th object. -/
def allV (l : List Ob) (i : Fin l.length) : Array Value := #[.int .u32 ((2 * posOf (l.take i.1) : Nat) : Int), (l[i.1]'i.2).x.val]

def mesO (v : Value) : Nat := if intOf v = 0 then 0 else 4294967296 - (intOf v).toNat
theorem mesO_nat (n : Nat) : mesO (.int .u32 (n : Int)) = if n = 0 then 0 else 4294967296 - n := by
  show (if ((n : Int)) = 0 then 0 else 4294967296 - ((n : Int)).toNat) = _
  by_cases h : n = 0
  · subst h; rfl
  · rw [if_neg (by omega), if_neg h, Int.toNat_natCast]
theorem mesO_lt {o no : Nat} (h : no = 0 ∨ o < no) (h0 : 0 < o) (h1 : o < 4294967296) (h2 : no < 4294967296) : mesO (.int .u32 (no : Int)) < mesO (.int .u32 (o : Int)) := by
  rw [mesO_nat, mesO_nat]
  rcases h with h | h
  · rw [if_pos h, if_neg (by omega)]; omega
  · rw [if_neg (by omega), if_neg (by omega)]; omega
theorem posOf_take_lt {h : HM} {l : List Ob} (G : h.Good l) (k : Nat) (hk : k < l.length) : posOf (l.take k) + 3 ≤ h.words.length := by
  have L := G.laid
  have e : l = l.take k ++ l[k] :: l.drop (k + 1) := by rw [List.getElem_cons_drop, List.take_append_drop]
  have L' := L
  rw [e] at L'
  have := L'.words_len
  omega
theorem posOf_pos (a : List Ob) : 1 ≤ posOf a := by unfold posOf; omega
theorem posOf_take_succ {l : List Ob} (k : Nat) (hk : k < l.length) : posOf (l.take k) < posOf (l.take (k + 1)) := by
  have et : l.take (k + 1) = l.take k ++ [l[k]] := by rw [List.take_add_one, List.getElem?_eq_getElem hk]; rfl
  rw [et, posOf_snoc]
  omega
section
variable {w : World} {p : HP} {h : HM} {l : List Ob}
theorem split_at (l : List Ob) (k : Nat) (hk : k < l.length) : l = l.take k ++ l[k] :: l.drop (k + 1) := by
  rw [List.getElem_cons_drop, List.take_append_drop]
theorem first_oopI (G : h.Good l) : h.objM 1 = oopI l 0 := by
  have : h.objM (posOf []) = oopAt [] l := HM.Laid.objM_at (a := []) G.laid
  change h.objM 1 = _ at this
  rw [this]
  unfold oopI oopAt
  cases l with
  | nil => rfl
  | cons b l => simp
theorem next_oopI (G : h.Good l) (k : Nat) (hk : k < l.length) : h.nextO (2 * posOf (l.take k)) = oopI l (k + 1) := by
  have L := G.laid
  have e := split_at l k hk
  have L' := L
  rw [e] at L'
  rw [L'.nextO_at]
  have et : l.take k ++ [l[k]] = l.take (k + 1) := by rw [List.take_add_one, List.getElem?_eq_getElem hk]; rfl
  rw [et]
  unfold oopI oopAt
  rcases Nat.lt_or_ge (k + 1) l.length with h1 | h1
  · rw [if_pos h1]
    cases hd : l.drop (k + 1) with
    | nil => have := congrArg List.length hd; simp at this; omega
    | cons b c => rfl
  · rw [List.drop_of_length_le h1, if_pos rfl, if_neg (by omega)]
theorem isB_at (G : h.Good l) (k : Nat) (hk : k < l.length) : h.isB (2 * posOf (l.take k)) = true :=
  (G.laid.isB_iff _).2 ⟨_, _, _, split_at l k hk, rfl⟩
theorem hd_at' (G : h.Good l) (k : Nat) (hk : k < l.length) : h.hd (posOf (l.take k)) = (l[k]).x := by
  have L := G.laid
  have e := split_at l k hk
  have L' := L
  rw [e] at L'
  have := L'.hd_at
  exact this
end

set_option maxRecDepth 100000 in
set_option maxHeartbeats 4000000 in
/-- All hands out the objects as they lie, whatever the body does that keeps them. -/
theorem all_stops {w : World} {p : HP} {h : HM} {l : List Ob} (H : HAt w p h) (G : h.Good l) (hs : Spares w) (n Bh m0 : Nat) (hbox : w.cell? ⟨Bh, 0, none⟩ = some (ptr p.g)) (hsp : 0 < m0) :
    SeqStopsK Fence.wide n Tryz.prog 122 #[.pointer (some ⟨Bh, 0, none⟩)] (allV l) (KpB m0 w.heap.size) (fun xs => xs = List.finRange l.length) (fun pre => pre <+: List.finRange l.length) l.length w :=
  fun lp J Jx W hW hJ hJx hY h0 => by
  have hBh := World.block_lt_of_cell? _ _ hbox
  have HW := H.below hW
  have hbW : W.cell? ⟨Bh, 0, none⟩ = some (ptr p.g) := (hW.cell (p := ⟨Bh, 0, none⟩) hBh).trans hbox
  have HC := Lib.hid (Clone_any HW G.fit)
  have HsW := hs.below hW
  refine callsIn_of_wp Tryz.func122 rfl trivial ?_ rfl
  simp only [Tryz.ntmps122, List.size_toArray, List.length_cons, List.length_nil, Nat.reduceAdd, Nat.reduceSub, Array.replicate_succ, Array.replicate_zero, List.push_toArray, List.append_toArray, List.nil_append, List.cons_append]
  unfold ptr at hbW HC
  have HY := Lib.hid hY
  have HJ := Lib.hid (show ∀ s A B, J s A → Below A.heap.size A B → J s B from fun s A B hs hb => hJ s A B none hs ⟨hb.os, hb.tape, hb.output, hb.size, fun k hk _ => hb.block k hk⟩ (fun r e => by cases e))
  have HJ0 := Lib.hid h0
  have HWD := Lib.hid hW
  clear hY hJ hJx h0 hW
  gi_wp2_with fail
  refine ⟨trivial, fun hh => (by cases hh), (callsIn_wide.2 HC.out).mono ?_⟩
  rintro e W1 ⟨pc, rfl, Hc, hnew, hb1⟩
  have HJ1 := HJ.out _ _ _ HJ0.out hb1
  have Hs1 := HsW.below hb1
  have HN := Lib.hid hnew
  have HF := Lib.hid (first_any Hc G.fit)
  rw [first_oopI G] at HF
  unfold ptr at HF
  clear hbW hnew
  gi_wp2_with fail
  refine ⟨trivial, fun hh => (by cases hh), (callsIn_wide.2 HF.out).mono ?_⟩
  rintro e W2 ⟨rfl, rfl⟩
  have HH := Lib.hid (show HAt W1 pc h ∧ Spares W1 ∧ J ((List.finRange l.length).take 0) W1 from ⟨Hc, Hs1, HJ1⟩)
  clear Hc Hs1 HJ1 hb1
  gi_wp2_with fail
  gi_loopw [4] (fun o wr => ∃ k : Nat, k ≤ l.length ∧ o = .int .u32 ((oopI l k : Nat) : Int) ∧ HAt wr pc h ∧ Spares wr ∧ J ((List.finRange l.length).take k) wr) (fun o wr => mesO o)
  case atStart => exact ⟨0, by omega, rfl, HH.out.1, HH.out.2.1, HH.out.2.2⟩
  case round =>
    obtain ⟨k, hk, rfl, Hk, hsk, hjk⟩ := hrel
    by_cases hlt : k < l.length
    · have hroom := G.fit.room
      have hhi := G.fit.hi
      have hpl := posOf_take_lt G k hlt
      have hpp := posOf_pos (l.take k)
      have hO := Lib.hid (show oopI l k = 2 * posOf (l.take k) by unfold oopI; rw [if_pos hlt])
      have hN := Lib.hid (next_oopI G k hlt)
      have hB := isB_at G k hlt
      have HX := Lib.hid (hd_at' G k hlt)
      have HAT := Lib.hid (fun w => at_any pc.g (2 * posOf (l.take k)) (by omega) (objB_pos _) w)
      have HHD := Lib.hid (fun w' (H : HAt w' pc h) (hs : Spares w') => header_any H G.fit hs (posOf (l.take k)) (G.laid.heads _ (by unfold HM.isB at hB; simp only [Bool.and_eq_true, half_pos] at hB; exact hB.2)))
      have HNX := Lib.hid (fun w' (H : HAt w' pc h) (hs : Spares w') => next_any H G.fit G.laid.heads hs (2 * posOf (l.take k)) (by omega))
      have HNV := Lib.hid (show h.nextV (2 * posOf (l.take k)) = .tuple #[.int .u32 (oopI l (k + 1) : Nat), .int .i64 0] by unfold HM.nextV; rw [if_pos hB, hN.out])
      have HME := Lib.hid (show oopI l (k + 1) = 0 ∨ 2 * posOf (l.take k) < oopI l (k + 1) by
        unfold oopI
        split
        · have := posOf_take_succ k hlt; right; omega
        · exact .inl rfl)
      have HMX := Lib.hid (show oopI l (k + 1) < 4294967296 by
        unfold oopI
        split
        · rename_i h1; have := posOf_take_lt G (k + 1) h1; omega
        · omega)
      have HTK := Lib.hid (show (List.finRange l.length).take k ++ [⟨k, hlt⟩] = (List.finRange l.length).take (k + 1) by
        rw [List.take_add_one, List.getElem?_eq_getElem (by simpa using hlt)]; simp)
      have HPL := Lib.hid (show ((List.finRange l.length).take k).length < l.length by simp; omega)
      have HAV := Lib.hid (show allV l ⟨k, hlt⟩ = #[.int .u32 ((2 * posOf (l.take k) : Nat) : Int), .agg #[.int .i64 (l[k].x.size : Nat), .int .i64 (l[k].x.fmt : Nat), .int .i64 (l[k].x.spare : Nat), .int .u32 (l[k].x.cls : Nat), .int .u32 (l[k].x.ser : Nat)]] from rfl)
      have HXV := Lib.hid (show (h.hd (posOf (l.take k))).val = .agg #[.int .i64 (l[k].x.size : Nat), .int .i64 (l[k].x.fmt : Nat), .int .i64 (l[k].x.spare : Nat), .int .u32 (l[k].x.cls : Nat), .int .u32 (l[k].x.ser : Nat)] by rw [HX.out]; rfl)
      have HK := Lib.hid (show HAt wr pc h ∧ Spares wr ∧ J ((List.finRange l.length).take k) wr from ⟨Hk, hsk, hjk⟩)
      have HYk := Lib.hid (fun W1 hj => HY.out ((List.finRange l.length).take k) ⟨k, hlt⟩ W1 hj HPL.out)
      rw [HAV.out] at HYk
      rw [hO.out]
      rw [HXV.out] at HHD
      rw [HNV.out] at HNX
      rw [half_pos] at HAT
      clear Hk hsk hjk hB hO HX hN HXV HNV HAV HPL HH
      generalize (⟨k, hlt⟩ : Fin l.length) = xk at *
      generalize l[k].x = X at *
      have ho : (((2 * posOf (l.take k) : Nat) : Int) != 0) = true := by simp; omega
      have HO32 := Lib.hid (show 2 * posOf (l.take k) < 4294967296 ∧ 0 < 2 * posOf (l.take k) by omega)
      generalize hq : 2 * posOf (l.take k) = o at *
      clear hq
      generalize posOf (l.take k) = q at *
      unfold ptr at HAT HHD HNX
      gi_wp2_with fail
      refine ⟨trivial, fun hh => (by cases hh), (callsIn_wide.2 (HAT.out _)).mono ?_⟩
      rintro e W3 ⟨rfl, rfl⟩
      gi_wp2_with fail
      refine ⟨trivial, fun hh => (by cases hh), (callsIn_wide.2 (HHD.out _ HK.out.1 HK.out.2.1)).mono ?_⟩
      rintro e W4 ⟨rfl, hb4⟩
      have HK4 := Lib.hid (show HAt W4 pc h ∧ Spares W4 ∧ J ((List.finRange l.length).take k) W4 from ⟨HK.out.1.below hb4, HK.out.2.1.below hb4, HJ.out _ _ _ HK.out.2.2 hb4⟩)
      clear hb4 HK
      obtain ⟨fn, tmps, assign, body, hy, hR⟩ := HYk.out W4 HK4.out.2.2
      gi_wp2_with fail
      refine ⟨fun hh => (by cases hh), hR.mono ?_⟩
      rintro e W5 (⟨rfl, hJ5, hk5⟩ | ⟨rfl, hx5⟩)
      · have HK5 := Lib.hid (show HAt W5 pc h ∧ Spares W5 ∧ J ((List.finRange l.length).take (k + 1)) W5 from
          ⟨HK4.out.1.kept hk5 (fun j hj => .inr (Nat.le_trans HWD.out.size (HN.out j hj))), (fun i hi => by
            have hc := HK4.out.2.1 i hi
            have hb := World.block_lt_of_cell? _ _ hc
            cases ho : W4.heap[0]? with
            | none => simp [World.cell?, ho] at hc
            | some ob =>
              cases ob with
              | cells cs t fr => exact (World.cell?_of_block (a := ⟨0, i, none⟩) ((hk5.cells _ cs t fr (.inl hsp) ho).trans ho.symm)).trans hc
              | _ => simp [World.cell?, ho] at hc), by rw [← HTK.out]; exact hJ5⟩)
        clear hJ5 hk5 hy hR HK4
        gi_wp2_with fail
        refine ⟨trivial, fun hh => (by cases hh), (callsIn_wide.2 (HNX.out _ HK5.out.1 HK5.out.2.1)).mono ?_⟩
        rintro e W6 ⟨rfl, hb6⟩
        have HK6 := Lib.hid (show HAt W6 pc h ∧ Spares W6 ∧ J ((List.finRange l.length).take (k + 1)) W6 from ⟨HK5.out.1.below hb6, HK5.out.2.1.below hb6, HJ.out _ _ _ HK5.out.2.2 hb6⟩)
        clear hb6 HK5
        generalize hno : oopI l (k + 1) = no at *
        have HNO := Lib.hid hno
        clear hno
        gi_wp2_with fail
        go_roundw
        case rel => exact ⟨k + 1, by omega, by rw [HNO.out], HK6.out.1, HK6.out.2.1, HK6.out.2.2⟩
        case measure => exact mesO_lt HME.out HO32.out.2 HO32.out.1 HMX.out
      · clear hy HK4
        gi_wp2_with fail
        refine bodyPost_ret (results_none rfl _ _ _) rfl ?_
        exact ⟨⟨_, rfl⟩, .inr ⟨_, ⟨(List.finRange l.length).drop (k + 1), by rw [HTK.out, List.take_append_drop]⟩, hx5⟩⟩
    · obtain rfl : k = l.length := by omega
      have hO := Lib.hid (show oopI l l.length = 0 by unfold oopI; rw [if_neg hlt])
      have HFin := Lib.hid (show J (List.finRange l.length) wr by have := hjk; rw [List.take_of_length_le (by simp)] at this; exact this)
      rw [hO.out]
      clear Hk hsk hjk hlt hk
      gi_wp2_with fail
      go_end0
      exact ⟨⟨_, rfl⟩, .inl ⟨_, rfl, HFin.out⟩⟩
end Go.Proofs.YtkpjkbkglnabiaaGreatDoor

namespace Go.Proofs.YtkpjkbkglnabiaaGreatDoor
open Go.RowKit
attribute [local go_sem] Oper.semAt_some

theorem all_any (g : Nat) (w : World) : Calls Tryz.prog 113 #[ptr g] w fun e w' => e = .returned (.func (.func 122) #[] #[.pointer (some ⟨w.heap.size, 0, none⟩)]) ∧ w' = w.alloc (.cells #[ptr g] 23) := by
  unfold ptr
  go_enter Tryz.func113, Tryz.ntmps113
  go_wp2_with fail
  go_ret
  exact ⟨rfl, rfl⟩

/-- The first object with a serial; 0: there is none. -/
def findN (l : List Ob) (s : Nat) : Nat := oopI l (l.findIdx (fun b => b.x.ser == s))
theorem find_done {l : List Ob} {s : Nat} (h : ∀ y : Fin l.length, (l[y.1]'y.2).x.ser ≠ s) : findN l s = 0 := by
  unfold findN oopI
  have : l.findIdx (fun b => b.x.ser == s) = l.length := by
    rw [List.findIdx_eq_length]
    intro b hb
    obtain ⟨i, hi, rfl⟩ := List.getElem_of_mem hb
    simpa using h ⟨i, hi⟩
  rw [this, if_neg (by omega)]
theorem find_stop {l : List Ob} {s : Nat} {q : List (Fin l.length)} {y : Fin l.length} (hp : q ++ [y] <+: List.finRange l.length) (hq : ∀ z ∈ q, (l[z.1]'z.2).x.ser ≠ s) (hy : (l[y.1]'y.2).x.ser = s) : findN l s = 2 * posOf (l.take y.1) := by
  obtain ⟨r, hr⟩ := hp
  have hlen : q.length < l.length := by have := congrArg List.length hr; simp at this; omega
  have hyq : y = ⟨q.length, hlen⟩ := by
    have h1 : (q ++ [y] ++ r)[q.length]? = some y := by simp
    rw [hr, List.getElem?_eq_getElem (by simpa using hlen)] at h1
    simp at h1
    exact h1.symm
  have hz : ∀ j (hj : j < q.length), (l[j]'(by omega)).x.ser ≠ s := by
    intro j hj
    have h1 : (q ++ [y] ++ r)[j]? = some q[j] := by simp [List.getElem?_append, hj]
    rw [hr, List.getElem?_eq_getElem (by simp; omega)] at h1
    simp at h1
    have := hq q[j] (List.getElem_mem hj)
    rw [← h1] at this
    exact this
  subst hyq
  unfold findN oopI
  have : l.findIdx (fun b => b.x.ser == s) = q.length := by
    rw [List.findIdx_eq hlen]
    exact ⟨by simpa using hy, fun j hj => by simpa using hz j hj⟩
  rw [this, if_pos hlen]

set_option maxRecDepth 100000 in
set_option maxHeartbeats 4000000 in
theorem find_any {w : World} {p : HP} {h : HM} {l : List Ob} (H : HAt w p h) (G : h.Good l) (hs : Spares w) (s : Nat) (hs32 : s < 4294967296) :
    Calls Tryz.prog 87 #[ptr p.g, .int .u32 s] w (Told (.int .u32 (findN l s : Nat)) w) := by
  have HMD := Lib.hid (fun w' (H : HAt w' p h) => made_any H (by have := G.fit.lo; omega) G.fit.hi)
  refine (callsIn_wide (n := 6)).1 ?_
  refine callsIn_of_wp_marks Tryz.func87 rfl trivial ?_ rfl
  simp only [Tryz.ntmps87, List.size_toArray, List.length_cons, List.length_nil, Nat.reduceAdd, Nat.reduceSub, Array.replicate_succ, Array.replicate_zero, List.push_toArray, List.append_toArray, List.nil_append, List.cons_append]
  unfold ptr at HMD ⊢
  gi_wp2_with fail
  refine ⟨trivial, (callsIn_wide.2 (HMD.out _ (H.below (((Below.refl _ w).alloc (Nat.le_refl _) _).alloc (by simp) _)))).mono ?_⟩
  rintro e W2 ⟨rfl, rfl⟩
  gi_wp2_with fail
  refine ⟨trivial, (callsIn_wide.2 (all_any p.g _)).mono ?_⟩
  rintro e W2 ⟨rfl, rfl⟩
  have bS := ((Boxed.new w 29 (.int .u32 (s : Int))).alloc (.cells #[.int .u32 0] 30)).alloc (.cells #[ptr p.g] 23)
  have bR := (Boxed.new (w.alloc (.cells #[.int .u32 (s : Int)] 29)) 30 (.int .u32 0)).alloc (.cells #[ptr p.g] 23)
  have bH := Boxed.new ((w.alloc (.cells #[.int .u32 (s : Int)] 29)).alloc (.cells #[.int .u32 0] 30)) 23 (ptr p.g)
  simp only [World.size_alloc] at bR bH
  have hB0 : Below w.heap.size w (((w.alloc (.cells #[.int .u32 (s : Int)] 29)).alloc (.cells #[.int .u32 0] 30)).alloc (.cells #[ptr p.g] 23)) := (((Below.refl _ w).alloc (Nat.le_refl _) _).alloc (by simp) _).alloc (by simp; omega) _
  have hsz : (((w.alloc (.cells #[.int .u32 (s : Int)] 29)).alloc (.cells #[.int .u32 0] 30)).alloc (.cells #[ptr p.g] 23)).heap.size = w.heap.size + 3 := by simp
  obtain ⟨W0, hW0⟩ : ∃ W0, ((w.alloc (.cells #[.int .u32 (s : Int)] 29)).alloc (.cells #[.int .u32 0] 30)).alloc (.cells #[ptr p.g] 23) = W0 := ⟨_, rfl⟩
  rw [hW0] at bS bR bH hB0 hsz
  gi_wp2_with fail
  clear hW0
  have HI := Lib.hid (show HAt W0 p h ∧ Spares W0 from ⟨H.below hB0, hs.below hB0⟩)
  have hlt := World.block_lt_of_cell? _ _ (hs 0 (by omega))
  simp only at hlt
  refine wpIn_rangeFunc_ownH (F := Fence.wide) rfl (by omega) (gf := 122) (lb := #[.pointer (some ⟨w.heap.size + 1 + 1, 0, none⟩)]) rfl trivial (enters_of Tryz.func122 (by kernel_rfl) rfl)
    (all_stops HI.out.1 G HI.out.2 5 (w.heap.size + 1 + 1) w.heap.size bH.cell hlt) KpB.trans (fun W l o o' _ h1 h2 _ => KpB.book W l o o' h1 h2) (Below.refl _ _) (fun _ => rfl)
    (fun pre W => (Boxed W w.heap.size 29 (.int .u32 (s : Int)) ∧ Boxed W (w.heap.size + 1) 30 (.int .u32 0)) ∧ (∀ z ∈ pre, (l[z.1]'z.2).x.ser ≠ s) ∧ Below w.heap.size w W)
    (fun c pre W => c = .ret ∧ (∃ q y, pre = q ++ [y] ∧ (∀ z ∈ q, (l[z.1]'z.2).x.ser ≠ s) ∧ (l[y.1]'y.2).x.ser = s ∧ Boxed W (w.heap.size + 1) 30 (.int .u32 ((2 * posOf (l.take y.1) : Nat) : Int))) ∧ Below w.heap.size w W)
    (OwnFrom.and (OwnFrom.and (Own.from (boxed_own _ _ _) _) (Own.from (boxed_own _ _ _) _)) (OwnFrom.and (ownFrom_pure _ _) (ownFrom_below (Nat.le_refl _) (by omega))))
    (fun c => OwnFrom.and (ownFrom_pure _ _) (OwnFrom.and (fun pre A B row hs hg hr => by
      obtain ⟨q, y, e1, e2, e3, hb⟩ := hs
      exact ⟨q, y, e1, e2, e3, boxed_own _ _ (fun (_ : Unit) => Value.int .u32 ((2 * posOf (l.take y.1) : Nat) : Int)) () A B row hb hg (fun r e => (hr r e).2)⟩) (ownFrom_below (Nat.le_refl _) (by omega))))
    ⟨⟨bS, bR⟩, (fun z hz => by cases hz), hB0⟩
    (fun x a' W => ∃ Bx, w.heap.size + 1 < Bx ∧ Blk W Bx 101 (l[x.1]'x.2).x.cells ∧ a' = { tmps := #[.pointer (some ⟨p.g, 0, none⟩), .int .u32 (s : Int), undef, .pointer (some ⟨w.heap.size, 0, none⟩), .pointer (some ⟨w.heap.size + 1, 0, none⟩), .int .u32 ((2 * posOf (l.take x.1) : Nat) : Int), .pointer (some ⟨Bx, 0, none⟩), .pointer (some ⟨p.g, 0, none⟩), .bool true, .bool false, .pointer (some ⟨p.g, 0, none⟩), .func (.func 122) #[] #[.pointer (some ⟨w.heap.size + 1 + 1, 0, none⟩)], .int .u32 ((2 * posOf (l.take x.1) : Nat) : Int), (l[x.1]'x.2).x.val, undef, undef, undef, undef, undef], defers := [] })
    (fun x a' _ X Y row hs hg hr => by
      obtain ⟨Bx, h1, h2, h3⟩ := hs
      refine ⟨Bx, h1, h2.same (hg.block Bx h2.lt (fun e => ?_)), h3⟩
      obtain ⟨_, o, ho, hc⟩ := hr Bx e.symm
      unfold Blk at h2
      rw [h2] at ho
      injection ho with ho
      subst ho
      simp [Obj.isCells] at hc)
    ?assign ?body ?done ?stop
  case assign =>
    rintro lp pre x W K ⟨⟨bS1, bR1⟩, hz, hB1⟩ hK
    rw [show allV l x = #[.int .u32 ((2 * posOf (l.take x.1) : Nat) : Int), .agg #[.int .i64 ((l[x.1]'x.2).x.size : Nat), .int .i64 ((l[x.1]'x.2).x.fmt : Nat), .int .i64 ((l[x.1]'x.2).x.spare : Nat), .int .u32 ((l[x.1]'x.2).x.cls : Nat), .int .u32 ((l[x.1]'x.2).x.ser : Nat)]] from rfl]
    have HZ := Lib.hid hz
    have HK := Lib.hid hK
    clear hK hz
    unfold Hd.val Hd.cells at HK
    have hb1 := bS1.lt
    generalize (l[x.1]'x.2).x = X at *
    generalize 2 * posOf (l.take x.1) = o at *
    gi_wp2_with fail
    exact HK.out _ _ ((KeepsOthers.alloc _ _).from _) ((KpB.refl _ _ _).alloc _) ⟨⟨bS1.alloc _, bR1.alloc _⟩, HZ.out, hB1.alloc hB1.size _⟩ ⟨W.heap.size, bR1.lt, Blk.new W _ _, rfl⟩
  case body =>
    rintro lp pre x a' W hl ⟨r, hr⟩ ⟨⟨bS1, bR1⟩, hz, hB1⟩ ⟨Bx, hBx, bX, rfl⟩ hltx
    have HZ := Lib.hid hz
    have cS := bS1.cell
    have cR := bR1.cell
    have fR := bR1.frozen
    unfold Hd.cells at bX
    unfold Hd.val
    obtain ⟨d0, d1, d2, d3, d4⟩ := bX.cells5
    clear hz
    by_cases hser : (l[x.1]'x.2).x.ser = s
    · have hq : (((l[x.1]'x.2).x.ser : Int) == (s : Int)) = true := by simp; omega
      have HX := Lib.hid hser
      clear hser
      have HO := Lib.hid (show ∃ o, 2 * posOf (l.take x.1) = o from ⟨_, rfl⟩)
      obtain ⟨o, ho⟩ := HO.out
      rw [ho]
      have HOE := Lib.hid ho
      clear ho HO
      generalize hX : (l[x.1]'x.2).x = X at *
      have HXE := Lib.hid hX
      clear hX
      gi_wp2_with fail
      refine ⟨(KeepsOthers.setCell _ _ _).from _, rfl, ⟨pre, x, rfl, HZ.out, by rw [HXE.out]; exact HX.out, ?_⟩, hB1.setCell (p := ⟨w.heap.size + 1, 0, none⟩) (by simp) _⟩
      rw [HOE.out]
      exact bR1.set _
    · have hq : (((l[x.1]'x.2).x.ser : Int) == (s : Int)) = false := by simp; omega
      have HX := Lib.hid hser
      clear hser
      generalize hX : (l[x.1]'x.2).x = X at *
      have HXE := Lib.hid hX
      clear hX
      generalize 2 * posOf (l.take x.1) = o at *
      gi_wp2_with fail
      refine ⟨(KeepsOthers.refl _).from _, KpB.refl _ _ _, ⟨bS1, bR1⟩, (fun z hz => ?_), hB1⟩
      rcases List.mem_append.1 hz with h1 | h1
      · exact HZ.out z h1
      · obtain rfl : z = x := by simpa using h1
        rw [HXE.out]; exact HX.out
  case done =>
    rintro D xs W hD rfl ⟨⟨bS1, bR1⟩, hz, hB1⟩ hK
    have hf := Lib.hid (find_done (fun y => hz y (List.mem_finRange y)))
    have cR := bR1.cell
    have fR := bR1.frozen
    clear hz
    gi_wp2_with fail
    have hK2 := (KeepsOthers.setCell W ⟨w.heap.size + 1, 0, none⟩ (.int .u32 0)).same D _ hK rfl
    have bR2 := bR1.set (.int .u32 0)
    refine ⟨by simp, .inl ⟨_, _, rfl, run_takeDeferred hK2, ?_⟩⟩
    have hc := cell_kept bR2.cell (grownBy_putObj' _ D (.deferred none)) (fun r e => by cases e; exact ⟨_, hK2, rfl⟩)
    refine ⟨.int .u32 0, by simp [results, Tryz.results87, go_sem, hc], by rw [hf.out]; rfl, ?_⟩
    exact (hB1.setCell (p := ⟨w.heap.size + 1, 0, none⟩) (by simp) _).trans (belowK_b (w := w) (Nat.le_refl _) _ D _ _ (by omega) hK2 rfl rfl)
  case stop =>
    rintro D c pre W hD hp ⟨rfl, ⟨q, y, rfl, hq, hy, bR1⟩, hB1⟩ hK
    have hf := Lib.hid (find_stop hp hq hy)
    clear hq hy hp
    gi_wp2_with fail
    refine ⟨by simp, .inl ⟨_, _, rfl, run_takeDeferred hK, ?_⟩⟩
    have hc := cell_kept bR1.cell (grownBy_putObj' _ D (.deferred none)) (fun r e => by cases e; exact ⟨_, hK, rfl⟩)
    refine ⟨.int .u32 ((2 * posOf (l.take y.1) : Nat) : Int), by simp [results, Tryz.results87, go_sem, hc], by rw [hf.out], ?_⟩
    exact hB1.trans (belowK_b (w := w) (Nat.le_refl _) _ D _ _ (by omega) hK rfl rfl)
end Go.Proofs.YtkpjkbkglnabiaaGreatDoor
