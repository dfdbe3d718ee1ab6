/- The iterator All of the program's heap: its contract, for every body that keeps what it did not make ahead of the loop. -/
/- All and Find of the program's heap. -/
/- The document's heap: First, Next, Find. -/
/- The document's heap: Bytes. -/
/- The document's heap: Show. -/
/- The document's heaps: Alike. -/
/- The document's heap: Copy (in work). -/
import Derived.Test.YtpajpdjjpgbklaaDoorJCloneH
import Derived.Test.YtpajpdjjpgbklaaDoorJSound
import Derived.Test.YtpajpdjjpgbklaaDoorJLive
import Derived.Test.YtpajpdjjpgbklaaDoorJRefE
import Derived.Test.YtpajpdjjpgbklaaDoorJUnpB
import Derived.Test.YtpajpdjjpgbklaaDoorJShow
import Derived.Test.YtpajpdjjpgbklaaDoorJOop
import Derived.RangeFuncNested
import Derived.RangeFuncBound
import Derived.RangeFuncCalls
import Derived.RangeFuncLeaves
import Derived.Shelf.Abstract
import Derived.Shelf.RegionOpen
import Derived.WalkKit
import Derived.OwnWalkIn
import Derived.TacticsInMore
import Derived.LoopNIn
import Derived.LoopIn
set_option linter.unusedVariables false
set_option linter.unusedSectionVars false
namespace Go.Proofs.YtpajpdjjpgbklaaDoor
open Go.RowKit
attribute [local go_sem] Oper.semAt_some

/-- What a round keeps: every block of cells but those from m0 to n0 (the caller's own variables). -/
structure KpB (m0 n0 : Nat) (w w' : World) : Prop where
  os : w'.os = w.os
  tape : w'.tape = w.tape
  output : w'.output = w.output
  size : w.heap.size ≤ w'.heap.size
  cells : ∀ k cs t fr, k < m0 ∨ n0 ≤ k → w.heap[k]? = some (.cells cs t fr) → w'.heap[k]? = some (.cells cs t fr)
theorem KpB.refl (m0 n0 : Nat) (w : World) : KpB m0 n0 w w := ⟨rfl, rfl, rfl, Nat.le_refl _, fun _ _ _ _ _ h => h⟩
theorem KpB.trans {m0 n0 : Nat} {a b c : World} (h : KpB m0 n0 a b) (k : KpB m0 n0 b c) : KpB m0 n0 a c :=
  ⟨k.os.trans h.os, k.tape.trans h.tape, k.output.trans h.output, Nat.le_trans h.size k.size, fun j cs t fr hj h1 => k.cells j cs t fr hj (h.cells j cs t fr hj h1)⟩
theorem lt_of_get {w : World} {k : Nat} {o : Obj} (h : w.heap[k]? = some o) : k < w.heap.size := by
  rcases Nat.lt_or_ge k w.heap.size with h1 | h1
  · exact h1
  · rw [Array.getElem?_eq_none h1] at h; cases h
theorem KpB.of_below {m0 n0 : Nat} {w w' : World} (h : Below w.heap.size w w') : KpB m0 n0 w w' :=
  ⟨h.os, h.tape, h.output, h.size, fun k cs t fr _ hk => (h.block k (lt_of_get hk)).trans hk⟩
theorem KpB.drew {m0 n0 : Nat} {w w' : World} (h : KpB m0 n0 w w') : KpB m0 n0 w w'.drew := ⟨h.os, h.tape, h.output, h.size, h.cells⟩
theorem KpB.alloc {m0 n0 : Nat} {w w' : World} (h : KpB m0 n0 w w') (o : Obj) : KpB m0 n0 w (w'.alloc o) := h.trans (.of_below (below_alloc1' (Below.refl _ _)))
where below_alloc1' {W w : World} {o : Obj} (h : Below W.heap.size W w) : Below W.heap.size W (w.alloc o) := h.alloc h.size o
theorem KpB.setCell {m0 n0 : Nat} {w w' : World} (h : KpB m0 n0 w w') {a : Addr} (h1 : m0 ≤ a.block) (h2 : a.block < n0) (u : Value) : KpB m0 n0 w (w'.setCell a u) :=
  ⟨h.os, h.tape, h.output, by simpa [World.setCell] using h.size, fun k cs t fr hk hh => (Below.heap_setCell w' a u k (fun e => by omega)).trans (h.cells k cs t fr hk hh)⟩
theorem KpB.book {m0 n0 : Nat} (W : World) (l : Nat) (o o' : Obj) (h : W.heap[l]? = some o) (hc : o.isCells = false) : KpB m0 n0 W (W.putObj l o') :=
  ⟨rfl, rfl, rfl, by simp, fun k cs t fr _ hk => by
    have hne : k ≠ l := by rintro rfl; rw [hk] at h; injection h with h; subst h; simp [Obj.isCells] at hc
    exact ((grownBy_putObj' W l o').block k (lt_of_get hk) (fun e => hne (by injection e))).trans hk⟩
theorem Blk.kept {m0 n0 : Nat} {w w' : World} {g : Nat} {t : TypeId} {cs : Array Value} (h : Blk w g t cs) (k : KpB m0 n0 w w') (hg : g < m0 ∨ n0 ≤ g) : Blk w' g t cs := k.cells g cs t (0, 0) hg h
theorem Row.kept {m0 n0 : Nat} {w w' : World} {g c : Nat} {e : TypeId} {xs : List Value} (h : Row w g e c xs) (k : KpB m0 n0 w w') (hg : g < m0 ∨ n0 ≤ g) : Row w' g e c xs := by
  obtain ⟨cur, h, r⟩ := h
  exact ⟨cur, h.kept k hg, r⟩
theorem HAt.kept {m0 n0 : Nat} {w w' : World} {p : HP} {h : HM} (H : HAt w p h) (k : KpB m0 n0 w w') (hp : ∀ j, p.has j → j < m0 ∨ n0 ≤ j) : HAt w' p h :=
  ⟨H.1.kept k (hp _ (.inl rfl)), H.2.1.kept k (hp _ (.inr (.inl rfl))), H.2.2.1.kept k (hp _ (.inr (.inr (.inl rfl)))), H.2.2.2.kept k (hp _ (.inr (.inr (.inr rfl))))⟩

/-- The k-th object's oop; 0 behind the last one. -/
def oopI (l : List Ob) (k : Nat) : Nat := if k < l.length then 2 * posOf (l.take k) else 0
/-- What All hands out of the k-th object. -/
def allV (l : List Ob) (i : Fin l.length) : Array Value := #[.int .u32 ((2 * posOf (l.take i.1) : Nat) : Int), (l[i.1]'i.2).x.val]

def mesO (v : Value) : Nat := if intOf v = 0 then 0 else 4294967296 - (intOf v).toNat
theorem mesO_nat (n : Nat) : mesO (.int .u32 (n : Int)) = if n = 0 then 0 else 4294967296 - n := by
  show (if ((n : Int)) = 0 then 0 else 4294967296 - ((n : Int)).toNat) = _
  by_cases h : n = 0
  · subst h; rfl
  · rw [if_neg (by omega), if_neg h, Int.toNat_natCast]
theorem mesO_lt {o no : Nat} (h : no = 0 ∨ o < no) (h0 : 0 < o) (h1 : o < 4294967296) (h2 : no < 4294967296) : mesO (.int .u32 (no : Int)) < mesO (.int .u32 (o : Int)) := by
  rw [mesO_nat, mesO_nat]
  rcases h with h | h
  · rw [if_pos h, if_neg (by omega)]; omega
  · rw [if_neg (by omega), if_neg (by omega)]; omega
theorem posOf_take_lt {h : HM} {l : List Ob} (G : h.Good l) (k : Nat) (hk : k < l.length) : posOf (l.take k) + 3 ≤ h.words.length := by
  have L := G.laid
  have e : l = l.take k ++ l[k] :: l.drop (k + 1) := by rw [List.getElem_cons_drop, List.take_append_drop]
  have L' := L
  rw [e] at L'
  have := L'.words_len
  omega
theorem posOf_pos (a : List Ob) : 1 ≤ posOf a := by unfold posOf; omega
theorem posOf_take_succ {l : List Ob} (k : Nat) (hk : k < l.length) : posOf (l.take k) < posOf (l.take (k + 1)) := by
  have et : l.take (k + 1) = l.take k ++ [l[k]] := by rw [List.take_add_one, List.getElem?_eq_getElem hk]; rfl
  rw [et, posOf_snoc]
  omega
section
variable {w : World} {p : HP} {h : HM} {l : List Ob}
theorem split_at (l : List Ob) (k : Nat) (hk : k < l.length) : l = l.take k ++ l[k] :: l.drop (k + 1) := by
  rw [List.getElem_cons_drop, List.take_append_drop]
theorem first_oopI (G : h.Good l) : h.objM 1 = oopI l 0 := by
  have : h.objM (posOf []) = oopAt [] l := HM.Laid.objM_at (a := []) G.laid
  change h.objM 1 = _ at this
  rw [this]
  unfold oopI oopAt
  cases l with
  | nil => rfl
  | cons b l => simp
theorem next_oopI (G : h.Good l) (k : Nat) (hk : k < l.length) : h.nextO (2 * posOf (l.take k)) = oopI l (k + 1) := by
  have L := G.laid
  have e := split_at l k hk
  have L' := L
  rw [e] at L'
  rw [L'.nextO_at]
  have et : l.take k ++ [l[k]] = l.take (k + 1) := by rw [List.take_add_one, List.getElem?_eq_getElem hk]; rfl
  rw [et]
  unfold oopI oopAt
  rcases Nat.lt_or_ge (k + 1) l.length with h1 | h1
  · rw [if_pos h1]
    cases hd : l.drop (k + 1) with
    | nil => have := congrArg List.length hd; simp at this; omega
    | cons b c => rfl
  · rw [List.drop_of_length_le h1, if_pos rfl, if_neg (by omega)]
theorem isB_at (G : h.Good l) (k : Nat) (hk : k < l.length) : h.isB (2 * posOf (l.take k)) = true :=
  (G.laid.isB_iff _).2 ⟨_, _, _, split_at l k hk, rfl⟩
theorem hd_at' (G : h.Good l) (k : Nat) (hk : k < l.length) : h.hd (posOf (l.take k)) = (l[k]).x := by
  have L := G.laid
  have e := split_at l k hk
  have L' := L
  rw [e] at L'
  have := L'.hd_at
  exact this
end

end Go.Proofs.YtpajpdjjpgbklaaDoor

namespace Go.Proofs.YtpajpdjjpgbklaaDoor
open Go.RowKit
attribute [local go_sem] Oper.semAt_some

/-- The first object with a serial; 0: there is none. -/
def findN (l : List Ob) (s : Nat) : Nat := oopI l (l.findIdx (fun b => b.x.ser == s))
theorem find_done {l : List Ob} {s : Nat} (h : ∀ y : Fin l.length, (l[y.1]'y.2).x.ser ≠ s) : findN l s = 0 := by
  unfold findN oopI
  have : l.findIdx (fun b => b.x.ser == s) = l.length := by
    rw [List.findIdx_eq_length]
    intro b hb
    obtain ⟨i, hi, rfl⟩ := List.getElem_of_mem hb
    simpa using h ⟨i, hi⟩
  rw [this, if_neg (by omega)]
theorem find_stop {l : List Ob} {s : Nat} {q : List (Fin l.length)} {y : Fin l.length} (hp : q ++ [y] <+: List.finRange l.length) (hq : ∀ z ∈ q, (l[z.1]'z.2).x.ser ≠ s) (hy : (l[y.1]'y.2).x.ser = s) : findN l s = 2 * posOf (l.take y.1) := by
  obtain ⟨r, hr⟩ := hp
  have hlen : q.length < l.length := by have := congrArg List.length hr; simp at this; omega
  have hyq : y = ⟨q.length, hlen⟩ := by
    have h1 : (q ++ [y] ++ r)[q.length]? = some y := by simp
    rw [hr, List.getElem?_eq_getElem (by simpa using hlen)] at h1
    simp at h1
    exact h1.symm
  have hz : ∀ j (hj : j < q.length), (l[j]'(by omega)).x.ser ≠ s := by
    intro j hj
    have h1 : (q ++ [y] ++ r)[j]? = some q[j] := by simp [List.getElem?_append, hj]
    rw [hr, List.getElem?_eq_getElem (by simp; omega)] at h1
    simp at h1
    have := hq q[j] (List.getElem_mem hj)
    rw [← h1] at this
    exact this
  subst hyq
  unfold findN oopI
  have : l.findIdx (fun b => b.x.ser == s) = q.length := by
    rw [List.findIdx_eq hlen]
    exact ⟨by simpa using hy, fun j hj => by simpa using hz j hj⟩
  rw [this, if_pos hlen]

end Go.Proofs.YtpajpdjjpgbklaaDoor

namespace Go.Proofs.YtpajpdjjpgbklaaDoor
open Go.RowKit
attribute [local go_sem] Oper.semAt_some
theorem findN_first {l : List Ob} {k : Nat} (hk : k < l.length) (h : ∀ j (hj : j < k), (l[j]'(by omega)).x.ser ≠ (l[k]'hk).x.ser) : findN l (l[k]'hk).x.ser = 2 * posOf (l.take k) := by
  unfold findN oopI
  have : l.findIdx (fun b => b.x.ser == (l[k]'hk).x.ser) = k := by
    rw [List.findIdx_eq hk]
    exact ⟨by simp, fun j hj => by simpa using h j hj⟩
  rw [this, if_pos hk]
section
variable {w : World} {p : HP} {h : HM} (R : RAt w p h) (f : h.Fit)
include R f
theorem rfirst_any : Calls Tryd.prog 95 #[ptr p.g] w (Said (.int .u32 (h.objM 1 : Nat)) w) := by
  have c1 := R.c1
  have hone := f.one
  have hroom := f.room
  have hhi := f.hi
  unfold ptr
  by_cases h1 : h.words.length = 1
  · have HF := Lib.hid (show h.objM 1 = 0 by unfold HM.objM; rw [if_pos (by omega)])
    have hb : (((h.words.length : Nat) : Int) == 1) = true := by simp; omega
    clear h1 R
    generalize h.words.length = N at *
    go_enter Tryd.func95, Tryd.ntmps95
    go_wp2_with fail
    go_ret
    exact ⟨by rw [HF.out]; rfl, rfl⟩
  · have HF := Lib.hid (show h.objM 1 = 2 by unfold HM.objM; rw [if_neg (by omega)])
    have hb : (((h.words.length : Nat) : Int) == 1) = false := by simp; omega
    clear h1 R
    generalize h.words.length = N at *
    go_enter Tryd.func95, Tryd.ntmps95
    go_wp2_with fail
    go_ret
    exact ⟨by rw [HF.out]; rfl, rfl⟩
set_option maxRecDepth 100000 in
set_option maxHeartbeats 4000000 in
theorem rnext_any (hh : h.Heads) (o : Nat) (ho : o < 4294967296) (hi : h.isB o = true) : Calls Tryd.prog 96 #[ptr p.g, .int .u32 o] w (Told (.int .u32 (h.nextO o : Nat)) w) := by
  have hd := HM.isB_hd hh hi
  have HH := Lib.hid (rheader_any R f o ho hd)
  have HC := Lib.hid (fun w' (hb : Below w.heap.size w w') => (R.below hb).c1)
  have hfl := fld0
  have hroom := f.room
  have hhi := f.hi
  have hle := hd.1
  have hs := (HM.hd_fit f (o / 2)).size
  unfold Hd.val at HH
  unfold ptr at HH ⊢
  have hq : ((o : Int) / 2) = ((o / 2 : Nat) : Int) := by omega
  have HN : h.nextO o = h.objM (o / 2 + 3 + (h.hd (o / 2)).size) := rfl
  clear R hi hd
  generalize h.hd (o / 2) = X at *
  generalize o / 2 = q at *
  have HF := Lib.hid HN
  clear HN
  by_cases he : q + 3 + X.size = h.words.length
  · have HF2 := Lib.hid (show h.nextO o = 0 by rw [HF.out]; unfold HM.objM; rw [if_pos (by omega)])
    have hb : (((q : Int) + 3 + (X.size : Int)) == ((h.words.length : Nat) : Int)) = true := by simp; omega
    clear HF
    generalize h.words.length = N at *
    go_enter Tryd.func96, Tryd.ntmps96
    go_wp2_with fail
    refine HH.out.mono ?_
    rintro e w1 ⟨rfl, hb1⟩
    have c1 := HC.out w1 hb1
    have HB1 := Lib.hid hb1
    clear hb1 HC
    go_wp2_with fail
    go_ret
    exact ⟨by rw [HF2.out]; rfl, HB1.out⟩
  · have HF2 := Lib.hid (show h.nextO o = 2 * (q + 3 + X.size) by rw [HF.out]; unfold HM.objM; rw [if_neg (by omega)])
    have hb : (((q : Int) + 3 + (X.size : Int)) == ((h.words.length : Nat) : Int)) = false := by simp; omega
    clear HF
    generalize h.words.length = N at *
    go_enter Tryd.func96, Tryd.ntmps96
    go_wp2_with fail
    refine HH.out.mono ?_
    rintro e w1 ⟨rfl, hb1⟩
    have c1 := HC.out w1 hb1
    have HB1 := Lib.hid hb1
    clear hb1 HC
    go_wp2_with fail
    go_ret
    exact ⟨by rw [HF2.out]; rw [show (((2 * (q + 3 + X.size) : Nat)) : Int) = 2 * ((q : Int) + 3 + (X.size : Int)) by omega]; rfl, HB1.out⟩
end
end Go.Proofs.YtpajpdjjpgbklaaDoor

namespace Go.Proofs.YtpajpdjjpgbklaaDoor
open Go.RowKit
attribute [local go_sem] Oper.semAt_some
/-- The bytes of an object, one by one. -/
def HM.bytesN (h : HM) (o : Nat) (n : Nat) : List Nat := (List.range n).map fun i => h.byteN o (i : Nat)
theorem HM.bytesN_len (h : HM) (o n : Nat) : (h.bytesN o n).length = n := by simp [HM.bytesN]
theorem HM.bytesN_succ (h : HM) (o n : Nat) : h.bytesN o (n + 1) = h.bytesN o n ++ [h.byteN o (n : Nat)] := by simp [HM.bytesN, List.range_succ]
/-- What the document's Bytes answers. -/
def HM.rbE (h : HM) (o : Nat) : Nat := if h.isB o = false then 3 else if (h.hd (o / 2)).fmt = 2 then 0 else 21
def RBytesP (h : HM) (o : Nat) (w : World) (d : Ending) (w' : World) : Prop :=
  Below w.heap.size w w' ∧ ((h.rbE o ≠ 0 ∧ d = .returned (.tuple #[.slice none 0 0, .int .i64 (h.rbE o : Nat)])) ∨
    (h.rbE o = 0 ∧ ∃ v, d = .returned (.tuple #[v, .int .i64 0]) ∧ w'.ownsRow w.heap.size 5 1 v (h.hd (o / 2)).len (u8c (h.bytesN o (h.hd (o / 2)).len))))
theorem ownsRow_grown {w w' : World} {base : Nat} {e : TypeId} {v : Value} {n : Nat} {xs : List Value} (h : w.ownsRow base e 1 v n xs) (hb : Below w.heap.size w w') : w'.ownsRow base e 1 v n xs := by
  refine ⟨h.1, ?_⟩
  rcases h.2 with h1 | ⟨g, cap, cur, h1, h2, h3, h4⟩
  · exact .inl h1
  · exact .inr ⟨g, cap, cur, h1, h2, (hb.block g (Array.getElem?_eq_some_iff.1 h3).1).trans h3, h4⟩
section
variable {w : World} {p : HP} {h : HM} (R : RAt w p h) (f : h.Fit) (o : Nat) (ho : o < 4294967296) (hh : h.Heads)
include R f ho hh
set_option maxRecDepth 100000 in
set_option maxHeartbeats 4000000 in
theorem rbytes_any : Calls Tryd.prog 58 #[ptr p.g, .int .u32 o] w (RBytesP h o w) := by
  have HI := Lib.hid (ris_any R f o ho)
  cases hi : h.isB o
  · rw [hi] at HI
    have HF := Lib.hid (show h.rbE o = 3 by unfold HM.rbE; rw [if_pos hi])
    unfold ptr at HI ⊢
    clear R hi
    go_enter Tryd.func58, Tryd.ntmps58
    go_wp2_with fail
    refine HI.out.mono ?_
    rintro e w1 ⟨rfl, rfl⟩
    go_wp2_with fail
    go_ret2
    exact ⟨Below.refl _ _, .inl ⟨by rw [HF.out]; decide, by rw [HF.out]; rfl⟩⟩
  · rw [hi] at HI
    have hd := HM.isB_hd hh hi
    have HH := Lib.hid (rheader_any R f o ho hd)
    have HL := Lib.hid (fun w' (hb : Below w.heap.size w w') => rlen_any (R.below hb) f o ho hd)
    obtain ⟨hlen, hsp, hsz, hfm, -⟩ := hd_parts f _ hd
    have hfl := fld1
    unfold Hd.val at HH
    by_cases h2 : (h.hd (o / 2)).fmt = 2
    · have HF := Lib.hid (show h.rbE o = 0 by unfold HM.rbE; rw [if_neg (by simp [hi]), if_pos h2])
      have hq : ((((h.hd (o / 2)).fmt : Nat) : Int) != 2) = false := by simp; omega
      have hlb : (h.hd (o / 2)).len ≤ 4194304 := by
        have h1 := hd.1
        have h3 := f.room
        have h4 := f.hi
        unfold Hd.len
        rw [if_pos h2]
        omega
      have HB := Lib.hid (fun (k : Nat) (hk : k < (h.hd (o / 2)).len) w' (hb : Below w.heap.size w w') => rbyte_any (R.below hb) f hh o ho (k : Int) (by omega))
      have HBL := Lib.hid (fun k : Nat => h.byteN_lt o (k : Int))
      have HBS := Lib.hid (fun k => h.bytesN_succ o k)
      have HLL := Lib.hid (fun k => h.bytesN_len o k)
      have HB0 := Lib.hid (show h.bytesN o 0 = [] from rfl)
      clear R hi hd hsp
      generalize hX : h.hd (o / 2) = X at *
      have HXE := Lib.hid hX
      clear hX
      generalize hLE : X.len = L at *
      have HLE := Lib.hid hLE
      clear hLE
      obtain ⟨i0, hi0, hz0, hz1, hz2⟩ := info_parts info_u8
      unfold ptr at HI HH HL HB ⊢
      go_enter Tryd.func58, Tryd.ntmps58
      go_wp2_with fail
      refine HI.out.mono ?_
      rintro e w1 ⟨rfl, rfl⟩
      go_wp2_with fail
      refine HH.out.mono ?_
      rintro e w1 ⟨rfl, hb1⟩
      have HB1 := Lib.hid hb1
      clear HI HH hb1
      go_wp2_with fail
      go_loopw [6, 7] (fun v i wr => ∃ k : Nat, k ≤ L ∧ i = .int .i64 k ∧ wr.ownsRow w.heap.size 5 1 v k (u8c (h.bytesN o k)) ∧ Below w.heap.size w wr) (fun _ i _ => L - (intOf i).toNat)
      case atStart => exact ⟨0, by omega, rfl, by rw [HB0.out]; exact ⟨by simp [u8c], .inl ⟨rfl, rfl⟩⟩, HB1.out⟩
      case round =>
        clear HB1
        obtain ⟨k, hk, rfl, hown, hbel⟩ := hrel
        have HOW := Lib.hid hown
        have HBEL := Lib.hid hbel
        have HLC := Lib.hid (HL.out wr hbel)
        clear hown hbel
        rcases Nat.lt_or_ge k L with hlt | hge
        · have hjt : decide ((k : Int) < (L : Int)) = true := by simp; omega
          have HKL := Lib.hid hlt
          go_wp2_with fail
          refine HLC.out.mono ?_
          rintro e w2 ⟨rfl, hb2⟩
          have HB2 := Lib.hid (below_top HBEL.out hb2)
          have HOW2 := Lib.hid (ownsRow_grown HOW.out hb2)
          have HBC := Lib.hid (HB.out k HKL.out w2 HB2.out)
          clear hb2 HLC HBEL HOW
          go_wp2_with fail
          refine HBC.out.mono ?_
          rintro e w3 ⟨rfl, hb3⟩
          have HB3 := Lib.hid (below_top HB2.out hb3)
          have HOW3 := Lib.hid (ownsRow_grown HOW2.out hb3)
          have hb256 := HBL.out k
          clear hb3 HBC HB2 HOW2
          generalize hby : h.byteN o (k : Int) = by_ at *
          have HBY := Lib.hid hby
          clear hby
          have hk4 : k < 4194304 := by have := HKL.out; omega
          go_wp2_with (at_builtin; refine wpList_append_any _ rfl (.tmp 33) (.tmp 35) _ rfl w.heap.size 5 i0 _ 1 1 Tryd.underlying46 hi0 hz0 hz1 hz2 rfl (by omega) u6 k _ rfl (HOW3.out.alloc _) (w3.heap.size + 1) (some ⟨w3.heap.size, 0, none⟩) 1 1 (u8c [by_]) rfl ⟨rfl, fun _ => ⟨_, rfl, by simp, cell_one_new _ _ _⟩⟩ (one_u8c _) (by simp only [maxLen]; omega) (by omega) (by have := HB3.out.size; simp; omega) ?_; intro v1 w5 hown5 hgrow hat5)
          go_roundw
          case rel =>
            refine ⟨k + 1, by have := HKL.out; omega, by go_num, ?_, below_grown (Nat.le_refl _) (HB3.out.alloc HB3.out.size _) hgrow (fun q hq => (HOW3.out.lt q hq).1)⟩
            rw [HBS.out, HBY.out]
            unfold u8c at hown5 ⊢
            rw [List.map_append]
            exact hown5
          case measure =>
            show L - ((k : Int) + 1).toNat < L - (k : Int).toNat
            have := HKL.out
            omega
        · obtain rfl : k = L := by omega
          have hjt : decide ((k : Int) < (k : Int)) = false := by simp
          clear hge hk
          go_wp2_with fail
          refine HLC.out.mono ?_
          rintro e w2 ⟨rfl, hb2⟩
          have HB2 := Lib.hid (below_top HBEL.out hb2)
          have HOW2 := Lib.hid (ownsRow_grown HOW.out hb2)
          clear hb2 HLC HBEL HOW
          go_wp2_with fail
          go_ret2
          refine ⟨HB2.out, .inr ⟨HF.out, _, rfl, ?_⟩⟩
          rw [HXE.out, HLE.out]
          exact HOW2.out
    · have HF := Lib.hid (show h.rbE o = 21 by unfold HM.rbE; rw [if_neg (by simp [hi]), if_neg h2])
      have hq : ((((h.hd (o / 2)).fmt : Nat) : Int) != 2) = true := by simp; omega
      clear R hi hd hsp HL h2
      generalize h.hd (o / 2) = X at *
      unfold ptr at HI HH ⊢
      go_enter Tryd.func58, Tryd.ntmps58
      go_wp2_with fail
      refine HI.out.mono ?_
      rintro e w1 ⟨rfl, rfl⟩
      go_wp2_with fail
      refine HH.out.mono ?_
      rintro e w1 ⟨rfl, hb1⟩
      have HB1 := Lib.hid hb1
      clear hb1
      go_wp2_with fail
      go_ret2
      exact ⟨HB1.out, .inl ⟨by rw [HF.out]; decide, by rw [HF.out]; rfl⟩⟩
end
end Go.Proofs.YtpajpdjjpgbklaaDoor

namespace Go.Proofs.YtpajpdjjpgbklaaDoor
open Go.RowKit Go.Sort Go.Lib
theorem oopT_obj {o : Nat} (hk : objB o = true) : oopT o = 64 :: Lib.itoa ((o / 2 : Nat) : Int) := by
  unfold objB kindM at hk
  unfold oopT
  by_cases h0 : o = 0
  · simp [h0] at hk
  · by_cases h1 : o % 2 = 1
    · simp [h0, h1] at hk
    · rw [if_neg h0, if_neg h1]
section
variable {w : World} {p : HP} {h : HM} (R : RAt w p h) (f : h.Fit) (hh : h.Heads) (hp : Pow w) (o : Nat) (ho : o < 4294967296) (hi : h.isB o = true)
include R f hh hp ho hi
end
end Go.Proofs.YtpajpdjjpgbklaaDoor

namespace Go.Proofs.YtpajpdjjpgbklaaDoor
open Go.RowKit
attribute [local go_sem] Oper.semAt_some
theorem drewN_below {w w' : World} {B n : Nat} (hb : Below B w w') : Below B w (w'.drewN n) := ⟨hb.os, hb.tape, hb.output, hb.size, hb.block⟩
end Go.Proofs.YtpajpdjjpgbklaaDoor

namespace Go.Proofs.YtpajpdjjpgbklaaDoor
open Go.RowKit
attribute [local go_sem] Oper.semAt_some
theorem one_begins (l : List Bool) : ∀ u ∈ begins l, u.oneCell' = true := by
  intro u hu
  obtain ⟨x, _, rfl⟩ := List.mem_map.1 hu
  rfl
end Go.Proofs.YtpajpdjjpgbklaaDoor
