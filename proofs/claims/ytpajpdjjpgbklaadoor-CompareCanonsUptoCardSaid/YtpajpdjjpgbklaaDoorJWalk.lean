/- (*pair).walk: both graphs walked together, up to the first pair that differs. -/
import Derived.Test.YtpajpdjjpgbklaaDoorJWalkK
import Derived.Test.YtpajpdjjpgbklaaDoorJCanon
import Derived.Test.YtpajpdjjpgbklaaDoorJUntil
import Derived.Test.YtpajpdjjpgbklaaDoorJCanK
import Derived.Test.YtpajpdjjpgbklaaDoorJAlike
import Derived.Deep.QuietTactic
import Derived.BigQuiet
import Derived.IntWalk
set_option linter.unusedVariables false
set_option linter.unusedSimpArgs false
namespace Go.Proofs.YtpajpdjjpgbklaaDoor
open Go.RowKit Go.Maps Go.Sort
attribute [local go_sem] Oper.semAt_some

/-- What walk leaves. -/
def WalkP (W0 : World) (x : PA) (d : Df) (e : Ending) (w' : World) : Prop :=
  e = .returned (.tuple #[]) ∧ Below W0.heap.size W0 w' ∧ ToldAt w' x.gP d
/-- The frame of the loop over objects: what it writes in its rounds is g's. -/
def frameWk (gP : Nat) (A1 : Option Addr) (n c1 : Nat) (A2 : Option Addr) (c2 : Nat) (ser : Bool) (bP bI : Nat) (g : Nat → Value) : Array Value :=
  #[.pointer (some ⟨gP, 0, none⟩), .slice A1 n c1, .slice A2 n c2, .bool ser, .pointer (some ⟨bP, 0, none⟩), g 5, g 6, g 7, g 8, .pointer (some ⟨bI, 0, none⟩), g 10, g 11, g 12, g 13, g 14, g 15, g 16, g 17, g 18, g 19, g 20, g 21, g 22, g 23, g 24, g 25, g 26, g 27, g 28, g 29, g 30, g 31, g 32, g 33, g 34, g 35, g 36, g 37, g 38, g 39, g 40, g 41, g 42, g 43, g 44, g 45, g 46, g 47, g 48, g 49, g 50, g 51, g 52, g 53, g 54, g 55, g 56, g 57, g 58, g 59, g 60, g 61, g 62, g 63, g 64, g 65, g 66, g 67, g 68, g 69, g 70, g 71, g 72, g 73, g 74, g 75, g 76, g 77, g 78, g 79, g 80, g 81, g 82, g 83, g 84, g 85, g 86, g 87, g 88, g 89, g 90, g 91, g 92, g 93, g 94, g 95, g 96, g 97, g 98, g 99, g 100, g 101, g 102, g 103, g 104, g 105, g 106, g 107, g 108, g 109, g 110, g 111, g 112]
/-- The frames of the loops over names. -/
def frameWkC (bO v : Nat) (g : Nat → Value) : Array Value :=
  #[g 0, g 1, g 2, g 3, g 4, g 5, g 6, g 7, g 8, g 9, .pointer (some ⟨bO, 0, none⟩), g 11, .int .u32 (v : Int), g 13, g 14, g 15, g 16, g 17, g 18, g 19, g 20, g 21, g 22, g 23, g 24, g 25, g 26, g 27, g 28, g 29, g 30, g 31, g 32, g 33, g 34, g 35, g 36, g 37, g 38, g 39, g 40, g 41, g 42, g 43, g 44, g 45, g 46, g 47, g 48, g 49, g 50, g 51, g 52, g 53, g 54, g 55, g 56, g 57, g 58, g 59, g 60, g 61, g 62, g 63, g 64, g 65, g 66, g 67, g 68, g 69, g 70, g 71, g 72, g 73, g 74, g 75, g 76, g 77, g 78, g 79, g 80, g 81, g 82, g 83, g 84, g 85, g 86, g 87, g 88, g 89, g 90, g 91, g 92, g 93, g 94, g 95, g 96, g 97, g 98, g 99, g 100, g 101, g 102, g 103, g 104, g 105, g 106, g 107, g 108, g 109, g 110, g 111, g 112]
def frameWkD (bP bI bO : Nat) (f : Int) (v : Nat) (g : Nat → Value) : Array Value :=
  #[g 0, g 1, g 2, g 3, .pointer (some ⟨bP, 0, none⟩), g 5, g 6, g 7, g 8, .pointer (some ⟨bI, 0, none⟩), .pointer (some ⟨bO, 0, none⟩), g 11, g 12, .int .i64 f, .int .u32 (v : Int), g 15, g 16, g 17, g 18, g 19, g 20, g 21, g 22, g 23, g 24, g 25, g 26, g 27, g 28, g 29, g 30, g 31, g 32, g 33, g 34, g 35, g 36, g 37, g 38, g 39, g 40, g 41, g 42, g 43, g 44, g 45, g 46, g 47, g 48, g 49, g 50, g 51, g 52, g 53, g 54, g 55, g 56, g 57, g 58, g 59, g 60, g 61, g 62, g 63, g 64, g 65, g 66, g 67, g 68, g 69, g 70, g 71, g 72, g 73, g 74, g 75, g 76, g 77, g 78, g 79, g 80, g 81, g 82, g 83, g 84, g 85, g 86, g 87, g 88, g 89, g 90, g 91, g 92, g 93, g 94, g 95, g 96, g 97, g 98, g 99, g 100, g 101, g 102, g 103, g 104, g 105, g 106, g 107, g 108, g 109, g 110, g 111, g 112]
theorem cell_of_kept {w w' : World} {ad : Addr} {u : Value} (hc : w.cell? ad = some u) (hk : ∀ (k : Nat) (cs : Array Value) (t : TypeId) (fr : Nat × Nat), w.heap[k]? = some (Obj.cells cs t fr) → w'.heap[k]? = some (Obj.cells cs t fr)) : w'.cell? ad = some u := by
  have hb := World.block_lt_of_cell? _ _ hc
  cases ho : w.heap[ad.block]? with
  | none => simp [World.cell?, ho] at hc
  | some o => cases o with
    | cells cs t fr => exact (World.cell?_of_block (a := ad) ((hk _ cs t fr ho).trans ho.symm)).trans hc
    | _ => simp [World.cell?, ho] at hc
theorem ToldAt.keep {w w' : World} {gP : Nat} {d : Df} (h : ToldAt w gP d) (hs : w.heap.size ≤ w'.heap.size) (hk : ∀ (k : Nat) (cs : Array Value) (t : TypeId) (fr : Nat × Nat), w.heap[k]? = some (Obj.cells cs t fr) → w'.heap[k]? = some (Obj.cells cs t fr)) : ToldAt w' gP d := by
  obtain ⟨h1, ⟨A, c, h2, ⟨h3, h4⟩, h6⟩, h5⟩ := h
  refine ⟨cell_of_kept h1 hk, ⟨A, c, cell_of_kept h2 hk, ⟨h3, fun hn => ?_⟩, h6⟩, cell_of_kept h5 hk⟩
  obtain ⟨ad, e, hb, hc⟩ := h4 hn
  exact ⟨ad, e, Nat.lt_of_lt_of_le hb hs, fun j u hu => cell_of_kept (hc j u hu) hk⟩
theorem ToldAt.own' {w w' : World} {gP B : Nat} {d : Df} {row : Option Nat} (h : ToldAt w gP d) (hg : w.grownBy w' row) (hr : ∀ r, row = some r → B ≤ r ∧ ∃ o : Obj, w.heap[r]? = some o ∧ o.isCells = false) : ToldAt w' gP d :=
  h.keep hg.size fun k cs t fr ho => (hg.block k (lt_of_get ho) (fun e => by
    obtain ⟨_, o, ho', hc⟩ := hr k e.symm
    rw [ho] at ho'; injection ho' with ho'; subst ho'; cases hc)).trans ho
theorem below_own' {W0 w w' : World} {B : Nat} {row : Option Nat} (hb : Below W0.heap.size W0 w) (h0 : W0.heap.size ≤ B) (hg : w.grownBy w' row) (hr : ∀ r, row = some r → B ≤ r ∧ ∃ o : Obj, w.heap[r]? = some o ∧ o.isCells = false) : Below W0.heap.size W0 w' :=
  ⟨hg.os.trans hb.os, hg.tape.trans hb.tape, hg.output.trans hb.output, Nat.le_trans hb.size hg.size, fun k hk => (hg.block k (Nat.lt_of_lt_of_le hk hb.size) (fun e => by have := (hr k e.symm).1; omega)).trans (hb.block k hk)⟩
/-- Leaving with marks. -/
theorem walk_left {W0 w w' : World} {x : PA} {d : Df} {ds : List Deferred} (hb : Below W0.heap.size W0 w) (h : ToldAt w x.gP d) (M : Marks W0.heap.size ds w) (h1 : w'.os = w.os) (h2 : w'.tape = w.tape) (h3 : w'.output = w.output) (hs : w'.heap.size = w.heap.size)
    (hk : ∀ k, k < w.heap.size → (∀ D, ({ target := .collected D, args := #[] } : Deferred) ∈ ds → k ≠ D) → w'.heap[k]? = w.heap[k]?) : WalkP W0 x d (.returned (.tuple #[])) w' :=
  ⟨rfl, below_left hb M h1 h2 h3 hs hk, h.keep (by omega) fun k cs t fr ho => (hk k (lt_of_get ho) fun D hD e => by
    obtain ⟨D', e1, _, h4⟩ := M.at_ _ hD
    injection e1 with e1; injection e1 with e1
    subst e1; subst e
    rw [ho] at h4; cases h4).trans ho⟩
theorem values_body {g h : HM} {W0 W w9 : World} {x : PA} {bP : Nat} {hvA hvB : Value} {r2 : PRows} {t0 t1 t2 : Value} {l2 m2 : List Nd} {ps2 : List Value} (S : WkSt W0 x bP hvA hvB r2 t0 t1 t2 l2 m2 ps2 W) (hb : Below W.heap.size W w9) {gq cq : Nat} {path : List Int} {f : Int}
    (hrow : Row w9 gq 3 cq (intZ (path ++ [f]))) (hgq : W.heap.size ≤ gq) (hk1 : ∀ y ∈ oopsOf l2, g.isB y = true) (hk2 : ∀ y ∈ oopsOf m2, h.isB y = true) (v u : Nat) (hv : v < 4294967296) (hu : u < 4294967296) (hpl : path.length ≤ 9000000) (S2 : Side l2 m2) (i : Nat) (hi : i < l2.length)
    (hpath : pathM l2 i = path) (hll : l2.length ≤ 4000000) : Calls Tryd.prog 73 #[.pointer (some ⟨x.gP, 0, none⟩), .int .u32 v, .int .u32 u, .slice (some ⟨gq, 0, none⟩) (path.length + 1) cq] w9 (ValuesP W0.heap.size x hvA hvB r2 t0 t1 t2 l2 m2 ps2 v u (i : Int) f (path ++ [f]) w9) := by
  have hx1 : ¬ x.has gq := fun e => by
    rcases e with e | e | e | e | e
    · have := S.pr.box.lt; omega
    · have := S.pr.ga.box.lt; omega
    · have := S.pr.ga.num.lt; omega
    · have := S.pr.gb.box.lt; omega
    · have := S.pr.gb.num.lt; omega
  have hr1 : ¬ r2.has gq := fun e => by have := (S.pr.rLow e).2; omega
  have hrd := hrow.reads hrow.lt
  rw [intZ_len, List.length_append, show [f].length = 1 from rfl] at hrd
  exact values_any (c := cq) (S.below hb).pr (fun y hy => isB_kind (hk1 y hy)) (fun y hy => isB_kind (hk2 y hy)) v u hv hu hrd (by omega) (by omega) hx1 hr1 S2 (i : Int) f (by omega) (by rw [if_neg (by omega), show ((i : Int)).toNat = i by omega, hpath]) hll
theorem told_of {w : World} {B : Nat} {x : PA} {hvA hvB : Value} {r : PRows} {l m lw : List Nd} {ps : List Value} {kd at_ g c : Nat} {path : List Int} (P : PAt w B x hvA hvB r (.int .i64 kd) (.slice (some ⟨g, 0, none⟩) path.length c) (.int .i64 at_) l m lw ps) (hr : Row w g 3 c (intZ path)) (hg : x.gP < g) :
    ToldAt w x.gP ⟨kd, path, at_⟩ := by
  refine ⟨P.box.cell 3, ⟨_, c, P.box.cell 4, ?_, fun ad e => by injection e with e; subst e; exact hg, by obtain ⟨_, _, h2, _⟩ := hr; rw [intZ_len] at h2; exact h2⟩, P.box.cell 5⟩
  have := hr.reads hr.lt
  rw [intZ_len] at this
  exact this
set_option maxRecDepth 100000 in
set_option maxHeartbeats 8000000 in
theorem walk_any {W0 w : World} {x : PA} {p q : HP} {g h : HM} {lg lh : List Ob} {r : PRows} (base : Below W0.heap.size W0 w) (P : PAt w W0.heap.size x (.pointer (some ⟨p.g, 0, none⟩)) (.pointer (some ⟨q.g, 0, none⟩)) r (.int .i64 0) (.slice none 0 0) (.int .i64 0) [] [] [] [])
    (HA : HAt W0 p g) (GA : g.Good lg) (HB : HAt W0 q h) (GB : h.Good lh) (sp : Spares W0) (ser : Bool) (A1 A2 : Option Addr) (n c1 c2 : Nat) (a b : List Nat) (hn : n ≤ 9223372036854775807) (hra : Reads W0 W0.heap.size 1 A1 n (u32s a)) (hrb : Reads W0 W0.heap.size 1 A2 n (u32s b))
    (ha32 : ∀ y ∈ a, y < 4294967296) (hb32 : ∀ y ∈ b, y < 4294967296) (hfa : g.fitsB a = true) (hfb : h.fitsB b = true) (L : List Nd) (hL : seenM g.nmN g.nmAt a = some L) (hL16 : L.length ≤ 65536) :
    Calls Tryd.prog 36 #[.pointer (some ⟨x.gP, 0, none⟩), .slice A1 n c1, .slice A2 n c2, .bool ser] w (WalkP W0 x (diffD g.nmN g.nmAt h.nmAt (g.odM h ser) a b)) := by
  have hla : a.length = n := by have := hra.1; rw [u32s_len] at this; omega
  have hlb : b.length = n := by have := hrb.1; rw [u32s_len] at this; omega
  have HLA := Lib.hid hla; have HLB := Lib.hid hlb
  have HRA := Lib.hid hra; have HRB := Lib.hid hrb; have HXA := Lib.hid ha32; have HXB := Lib.hid hb32
  have HFA := Lib.hid hfa; have HFB := Lib.hid hfb; have HHA := Lib.hid HA; have HHB := Lib.hid HB; have HLL := Lib.hid hL
  have hba : Below w.heap.size w (w.alloc (.cells #[.pointer (some ⟨x.gP, 0, none⟩)] 91)) := (Below.refl _ _).alloc (Nat.le_refl _) _
  have HS0 := Lib.hid (show WkSt W0 x w.heap.size (.pointer (some ⟨p.g, 0, none⟩)) (.pointer (some ⟨q.g, 0, none⟩)) r (.int .i64 0) (.slice none 0 0) (.int .i64 0) [] [] [] (w.alloc (.cells #[.pointer (some ⟨x.gP, 0, none⟩)] 91)) from
    ⟨base.alloc base.size _, P.below hba, Blk.new w _ _⟩)
  have hbP : W0.heap.size ≤ w.heap.size := base.size
  clear hla hlb hra hrb ha32 hb32 hfa hfb HA HB hL hba P base
  refine (callsIn_wide (n := 6)).1 ?_
  refine callsIn_of_wp_marks Tryd.func36 rfl trivial ?_ rfl
  simp only [Tryd.ntmps36, List.size_toArray, List.length_cons, List.length_nil, Nat.reduceAdd, Nat.reduceSub, Array.replicate_succ, Array.replicate_zero, List.push_toArray, List.append_toArray, List.nil_append, List.cons_append]
  gi_wp2_with fail
  generalize w.heap.size = bP at *
  generalize w.alloc (.cells #[.pointer (some ⟨x.gP, 0, none⟩)] 91) = w2 at *
  gi_loopw [17] (fun iv wr => ∃ k : Nat, k ≤ n ∧ iv = .int .i64 k ∧ ∃ l m r' ps, beginD a b k = .on l m ∧ (∀ y ∈ oopsOf l, g.isB y = true) ∧ (∀ y ∈ oopsOf m, h.isB y = true) ∧ WkSt W0 x bP (.pointer (some ⟨p.g, 0, none⟩)) (.pointer (some ⟨q.g, 0, none⟩)) r' (.int .i64 0) (.slice none 0 0) (.int .i64 0) l m ps wr) (fun iv _ => n - (intOf iv).toNat)
  case atStart => exact ⟨0, by omega, rfl, [], [], r, [], rfl, fun y hy => by simp [oopsOf] at hy, fun y hy => by simp [oopsOf] at hy, HS0.out⟩
  case round =>
    clear HS0
    obtain ⟨k, hk, rfl, l, m, r', ps, hbd, hiA, hiB, S⟩ := hrel
    have HBD := Lib.hid hbd
    have HIA := Lib.hid hiA
    have HIB := Lib.hid hiB
    have HS := Lib.hid S
    clear hiA hiB S hbd
    by_cases hlt : k < n
    · obtain ⟨ad1, u1, rfl, hbl1, hx1, kc1⟩ := (HRA.out.below HS.out.base).at_ hlt
      obtain ⟨ad2, u2, rfl, hbl2, hx2, kc2⟩ := (HRB.out.below HS.out.base).at_ hlt
      rw [u32s_get (by rw [HLA.out]; exact hlt)] at hx1
      rw [u32s_get (by rw [HLB.out]; exact hlt)] at hx2
      injection hx1 with hx1
      injection hx2 with hx2
      subst hx1
      subst hx2
      have hm1 : a.getD k 0 ∈ a := by
        rw [List.getD_eq_getElem?_getD, List.getElem?_eq_getElem (by rw [HLA.out]; exact hlt)]
        exact List.getElem_mem _
      have hm2 : b.getD k 0 ∈ b := by
        rw [List.getD_eq_getElem?_getD, List.getElem?_eq_getElem (by rw [HLB.out]; exact hlt)]
        exact List.getElem_mem _
      have hv32 := HXA.out _ hm1
      have hu32 := HXB.out _ hm2
      have HVA := Lib.hid (fun hk2 => fits_all HFA.out (a.getD k 0) hm1 hk2)
      have HVB := Lib.hid (fun hk2 => fits_all HFB.out (b.getD k 0) hm2 hk2)
      have HSD := Lib.hid (beginD_side HBD.out)
      have hll : l.length ≤ 2097152 := graph_bound GA.fit HSD.out.ndl HIA.out
      have HON := Lib.hid (fun hp => beginD_on HBD.out hp)
      have HOF := Lib.hid (fun hp => beginD_end HBD.out hp)
      clear hm1 hm2
      generalize a.getD k 0 = v at *
      generalize b.getD k 0 = u at *
      have hkb : k < 9223372036854775807 := by omega
      gi_upto_region 4 with fail
      refine wpIn_wide.2 ?_
      refine wp_region_U 11 (fun w' => w'.cell? ⟨bP, 0, none⟩ = some (.pointer (some ⟨x.gP, 0, none⟩)) ∧ w'.cell? (ad1.add k) = some (.int .u32 (v : Int)) ∧ w'.cell? (ad2.add k) = some (.int .u32 (u : Int))) (by kernel_rfl) ?_
      have hbd : Below wr.heap.size wr wr.drew := below_drew (Below.refl _ _)
      have HS3 := Lib.hid (HS.out.below hbd)
      replace kc1 : wr.drew.cell? (ad1.add k) = some (.int .u32 (v : Int)) := kc1
      replace kc2 : wr.drew.cell? (ad2.add k) = some (.int .u32 (u : Int)) := kc2
      clear HS hbd
      generalize wr.drew = w3 at *
      have hS : w3.cell? ⟨bP, 0, none⟩ = some (.pointer (some ⟨x.gP, 0, none⟩)) ∧ w3.cell? (ad1.add k) = some (.int .u32 (v : Int)) ∧ w3.cell? (ad2.add k) = some (.int .u32 (u : Int)) := ⟨HS3.out.box.cell 0, kc1, kc2⟩
      refine U_readC 0 [11] (v := .pointer (some ⟨x.gP, 0, none⟩)) rfl (by kernel_rfl) (fun _ _ _ h => h) hS (by rfl) (fun w' hw' => by obtain ⟨h0, h1, h2⟩ := hw'; go_simp) ?_
      try simp only [Act.put, List.setIfInBounds_toArray, List.set_cons_zero, List.set_cons_succ]
      refine U_readC 1 [3, 4, 11] (v := .slice (some ad1) n c1) rfl (by kernel_rfl) (fun _ _ _ h => h) hS (by rfl) (fun w' hw' => by obtain ⟨h0, h1, h2⟩ := hw'; go_simp) ?_
      try simp only [Act.put, List.setIfInBounds_toArray, List.set_cons_zero, List.set_cons_succ]
      refine U_readC 2 [3, 4, 11] (v := .int .i64 (k : Int)) rfl (by kernel_rfl) (fun _ _ _ h => h) hS (by rfl) (fun w' hw' => by obtain ⟨h0, h1, h2⟩ := hw'; go_simp) ?_
      try simp only [Act.put, List.setIfInBounds_toArray, List.set_cons_zero, List.set_cons_succ]
      refine U_readC 3 [4, 11] (v := .pointer (some (ad1.add k))) rfl (by kernel_rfl) (fun _ _ _ h => h) hS (by rfl) (fun w' hw' => by obtain ⟨h0, h1, h2⟩ := hw'; go_simp) ?_
      try simp only [Act.put, List.setIfInBounds_toArray, List.set_cons_zero, List.set_cons_succ]
      refine U_readC 4 [11] (v := .int .u32 (v : Int)) rfl (by kernel_rfl) (fun _ _ _ h => h) hS (by rfl) (fun w' hw' => by obtain ⟨h0, h1, h2⟩ := hw'; go_simp) ?_
      try simp only [Act.put, List.setIfInBounds_toArray, List.set_cons_zero, List.set_cons_succ]
      refine U_readC 5 [7, 8, 11] (v := .slice (some ad2) n c2) rfl (by kernel_rfl) (fun _ _ _ h => h) hS (by rfl) (fun w' hw' => by obtain ⟨h0, h1, h2⟩ := hw'; go_simp) ?_
      try simp only [Act.put, List.setIfInBounds_toArray, List.set_cons_zero, List.set_cons_succ]
      refine U_readC 6 [7, 8, 11] (v := .int .i64 (k : Int)) rfl (by kernel_rfl) (fun _ _ _ h => h) hS (by rfl) (fun w' hw' => by obtain ⟨h0, h1, h2⟩ := hw'; go_simp) ?_
      try simp only [Act.put, List.setIfInBounds_toArray, List.set_cons_zero, List.set_cons_succ]
      refine U_readC 7 [8, 11] (v := .pointer (some (ad2.add k))) rfl (by kernel_rfl) (fun _ _ _ h => h) hS (by rfl) (fun w' hw' => by obtain ⟨h0, h1, h2⟩ := hw'; go_simp) ?_
      try simp only [Act.put, List.setIfInBounds_toArray, List.set_cons_zero, List.set_cons_succ]
      refine U_readC 8 [11] (v := .int .u32 (u : Int)) rfl (by kernel_rfl) (fun _ _ _ h => h) hS (by rfl) (fun w' hw' => by obtain ⟨h0, h1, h2⟩ := hw'; go_simp) ?_
      try simp only [Act.put, List.setIfInBounds_toArray, List.set_cons_zero, List.set_cons_succ]
      refine U_readC 9 [10, 11] (v := .int .i64 (k : Int)) rfl (by kernel_rfl) (fun _ _ _ h => h) hS (by rfl) (fun w' hw' => by obtain ⟨h0, h1, h2⟩ := hw'; go_simp) ?_
      try simp only [Act.put, List.setIfInBounds_toArray, List.set_cons_zero, List.set_cons_succ]
      refine U_one 10 (by kernel_rfl) rfl rfl (fun K hK => ?_)
      go_simp
      have hba := (Below.refl w3.heap.size w3).alloc (Nat.le_refl _) (.cells #[.int .i64 (k : Int)] 3)
      refine hK _ _ (fun _ => ⟨(HS3.out.below hba).box.cell 0, (hba.cell (World.block_lt_of_cell? _ _ hS.2.1)).trans hS.2.1, (hba.cell (World.block_lt_of_cell? _ _ hS.2.2)).trans hS.2.2⟩) ?_
      clear hK K
      try simp only [Act.put, List.setIfInBounds_toArray, List.set_cons_zero, List.set_cons_succ]
      have HS4 := Lib.hid (HS3.out.below hba)
      have HNH := Lib.hid (show ¬ x.has w3.heap.size ∧ ¬ r'.has w3.heap.size from ⟨fun e => by
        rcases e with e | e | e | e | e
        · have := HS3.out.pr.box.lt; omega
        · have := HS3.out.pr.ga.box.lt; omega
        · have := HS3.out.pr.ga.num.lt; omega
        · have := HS3.out.pr.gb.box.lt; omega
        · have := HS3.out.pr.gb.num.lt; omega, fun e => by have := (HS3.out.pr.rLow e).2; omega⟩)
      have HVL := Lib.hid (values_any (c := 1) HS4.out.pr (fun y hy => isB_kind (HIA.out y hy)) (fun y hy => isB_kind (HIB.out y hy)) v u hv32 hu32 (show Reads (w3.alloc (.cells #[.int .i64 (k : Int)] 3)) (w3.alloc (.cells #[.int .i64 (k : Int)] 3)).heap.size 1 (some ⟨w3.heap.size, 0, none⟩) 1 (intZ [(k : Int)]) from ⟨rfl, fun _ => ⟨_, rfl, by simp, cell_one_new _ _ _⟩⟩) (by omega) (by omega) HNH.out.1 HNH.out.2 HSD.out (-1) (k : Int) (by omega) rfl (by omega))
      refine U_one 11 (by kernel_rfl) rfl rfl (fun K hK => ?_)
      go_simp
      refine HVL.out.mono ?_
      rintro e w5 (⟨hp0, rfl, r5, ps5, P5, s5⟩ | ⟨hp0, hD⟩)
      · have HS5 := Lib.hid (HS4.out.step P5 s5)
        clear P5 s5 HVL
        try dsimp only
        refine hK _ _ (fun h => absurd h (by decide)) ?_
        clear hK K
        try simp only [Act.put, List.setIfInBounds_toArray, List.set_cons_zero, List.set_cons_succ]
        refine U_done (by kernel_rfl) ?_ _
        simp only [Calm, Exit.then]
        gi_wp2_with fail
        go_roundw
        case rel => exact ⟨k + 1, by omega, by go_num, _, _, r5, ps5, HON.out hp0, meetN_all HIA.out HVA.out _ _ _, meetN_all HIB.out HVB.out _ _ _, HS5.out⟩
        case measure => simp [intOf]; omega
      · obtain ⟨rfl, s5, gD, cD, P5, hrow5, hgD⟩ := hD
        have HFIN := Lib.hid (show Below W0.heap.size W0 w5 ∧ ToldAt w5 x.gP (diffD g.nmN g.nmAt h.nmAt (g.odM h ser) a b) from ⟨HS4.out.base' s5, by
          unfold diffD
          rw [beginD_off (HOF.out hp0) a.length (by rw [HLA.out]; omega)]
          exact told_of P5 hrow5 (Nat.lt_of_lt_of_le HS4.out.pr.box.lt hgD)⟩)
        clear P5 s5 HVL hrow5
        try dsimp only
        refine hK _ _ (fun h => absurd h (by decide)) ?_
        clear hK K
        try simp only [Act.put, List.setIfInBounds_toArray, List.set_cons_zero, List.set_cons_succ]
        refine U_done (by kernel_rfl) ?_ _
        simp only [Calm, Exit.then]
        gi_wp2_with fail
        refine ⟨.tuple #[], by simp [results, Tryd.results36, go_sem], ?_⟩
        exact ⟨rfl, HFIN.out⟩
    · obtain rfl : k = n := by omega
      clear hk hlt
      have HB := Lib.hid (beginD_bare HBD.out)
      have HSD := Lib.hid (beginD_side HBD.out)
      have HDF := Lib.hid (show diffD g.nmN g.nmAt h.nmAt (g.odM h ser) a b = loopD g.nmN g.nmAt h.nmAt (g.odM h ser) fuelD 0 l m by unfold diffD; rw [HLA.out, HBD.out])
      have HLQ := Lib.hid (seenM_seq HLL.out)
      have HLP := Lib.hid (fun i hi => seenM_pre (i := i) HLL.out hi)
      have hbi := (Below.refl wr.heap.size wr).alloc (Nat.le_refl _) (.cells #[.int .i64 0] 3)
      have HS2 := Lib.hid (HS.out.below hbi)
      have HNH := Lib.hid (show ¬ r'.has wr.heap.size from fun e => by have := (HS.out.pr.rLow e).2; omega)
      clear hbi
      gi_wp2_with fail
      refine wpIn_loop_n (fun j a' W => ∃ (i bI : Nat) (ds : List Deferred) (l m : List Nd) (r : PRows) (ps : List Value), a' = { tmps := frameWk x.gP A1 k c1 A2 c2 ser bP bI (fun n => a'.tmps.toList.getD n undef), defers := ds } ∧ j = 65538 - i ∧ i ≤ l.length ∧ i ≤ L.length ∧
        l = bare (seqM g.nmN g.nmAt a i) ∧ Side l m ∧ (∀ y ∈ oopsOf l, g.isB y = true) ∧ (∀ y ∈ oopsOf m, h.isB y = true) ∧ diffD g.nmN g.nmAt h.nmAt (g.odM h ser) a b = loopD g.nmN g.nmAt h.nmAt (g.odM h ser) (fuelD - i) i l m ∧
        WkSt W0 x bP (.pointer (some ⟨p.g, 0, none⟩)) (.pointer (some ⟨q.g, 0, none⟩)) r (.int .i64 0) (.slice none 0 0) (.int .i64 0) l m ps W ∧ Blk W bI 3 #[.int .i64 i] ∧ ¬ r.has bI ∧ W0.heap.size ≤ bI ∧ Marks W0.heap.size ds W) 65538 ?start ?round
      case start =>
        refine ⟨0, wr.heap.size, [], l, m, r', ps, rfl, rfl, Nat.zero_le _, Nat.zero_le _, ?_, HSD.out, HIA.out, HIB.out, HDF.out, HS2.out, Blk.new wr _ _, HNH.out, HS.out.base.size, Marks.nil _ _⟩
        rw [HB.out.1, ← HLA.out]; rfl
      case round =>
        clear HS HS2 HNH HBD HB HSD HDF HIA HIB
        clear r' ps l m wr
        rintro j a' W ⟨i, bI, ds, l, m, r', ps, ha, hj, hil, hiL, hbare, hsd, hiA, hiB, hdf, S, BI, hnI, hbI, MK⟩
        generalize (fun n => a'.tmps.toList.getD n undef) = gf at ha
        unfold frameWk at ha
        subst ha
        have HJ := Lib.hid hj
        have HBR := Lib.hid hbare
        have HSD := Lib.hid hsd
        have HIA := Lib.hid hiA
        have HIB := Lib.hid hiB
        have HDF := Lib.hid hdf
        have HS := Lib.hid S
        have HBI := Lib.hid BI
        have HNI := Lib.hid hnI
        have HMK := Lib.hid MK
        have hl16 : l.length ≤ 65536 := by
          have := (HLP.out i hiL).length_le
          rw [hbare, bare_len]; omega
        clear hj hbare hsd hiA hiB hdf S BI hnI MK
        have k0 := HBI.out.cell 0
        have k1 := HS.out.box.cell 0
        have k2 := HS.out.pr.box.cell 0
        have k3 := HS.out.pr.ga.box.cell 1
        obtain ⟨AA, cA, eA, -⟩ := own_slice HS.out.pr.ga.met
        rw [eA] at k3
        clear eA
        by_cases hlt : i < l.length
        · have hd : decide ((i : Int) < (l.length : Int)) = true := by simp; omega
          gi_upto_region 7 with fail
          refine wpIn_wide.2 ?_
          go_quiet (fail)
          have HW1 := Lib.hid (below_drewN (Below.refl W.heap.size W) nq)
          have HS1 := Lib.hid (HS.out.below HW1.out)
          have HBI1 := Lib.hid (HBI.out.below HW1.out HBI.out.lt)
          have HMK1 := Lib.hid (HMK.out.below HW1.out)
          clear k0 k1 k2 k3 HS HBI HMK HW1 hd
          generalize W.drewN nq = W1 at *
          have HISA := Lib.hid (show g.isB (oAt l i) = true from HIA.out _ (by
            rw [← oops_oAt, List.getD_eq_getElem?_getD, List.getElem?_eq_getElem (by rw [oopsOf_len]; exact hlt)]
            exact List.getElem_mem _))
          have HISB := Lib.hid (show h.isB (oAt m i) = true from HIB.out _ (by
            rw [← oops_oAt, List.getD_eq_getElem?_getD, List.getElem?_eq_getElem (by rw [oopsOf_len, HSD.out.len]; exact hlt)]
            exact List.getElem_mem _))
          have HOB := Lib.hid (objects_any HS1.out.pr (HHA.out.below HS1.out.base) GA (HHB.out.below HS1.out.base) GB (sp.below HS1.out.base) HSD.out ser i hlt (by omega) HISA.out HISB.out)
          have HLT := Lib.hid hlt
          have HFU := Lib.hid (show ∃ f, fuelD - i = f + 1 ∧ fuelD - (i + 1) = f from ⟨fuelD - (i + 1), by unfold fuelD; omega, rfl⟩)
          have k0 := HBI1.out.cell 0
          have k1 := HS1.out.box.cell 0
          generalize hod : g.odM h ser (oAt l i) (oAt m i) = od at *
          have HOD := Lib.hid hod
          clear hod
          gi_wp2_with fail
          refine ⟨trivial, (callsIn_wide.2 HOB.out).mono ?_⟩
          rintro e W2 (⟨ho, rfl, P2, hb2⟩ | ⟨kd, at_, ho, hD⟩)
          · have HON := Lib.hid (HOD.out.trans ho)
            have HS2 := Lib.hid (HS1.out.below hb2)
            have HBI2 := Lib.hid (HBI1.out.below hb2 HBI1.out.lt)
            have HMK2 := Lib.hid (HMK1.out.below hb2)
            clear HS1 HBI1 HMK1 k0 k1 HOB P2 hb2 ho HOD
            gi_upto_region 11 with fail
            have hbO := (Below.refl W2.heap.size W2).alloc (Nat.le_refl _) (.cells #[.slice none 0 0] 23)
            have HS3 := Lib.hid (HS2.out.below hbO)
            have HBI3 := Lib.hid (HBI2.out.below hbO HBI2.out.lt)
            have HMK3 := Lib.hid (HMK2.out.below hbO)
            have HO3 := Lib.hid (show OthSt W0 r' W2.heap.size (.slice none 0 0) [] (W2.alloc (.cells #[.slice none 0 0] 23)) from ⟨Blk.new W2 _ _, ⟨rfl, .inl ⟨rfl, rfl⟩⟩, HS2.out.base.size, fun k hk => by cases hk⟩)
            clear HS2 HBI2 HMK2 hbO
            generalize W2.heap.size = bO at *
            generalize W2.alloc (.cells #[.slice none 0 0] 23) = W3 at *
            have k0 := cell_regrown (HBI3.out.cell 0)
            have k1 := cell_regrown (HS3.out.box.cell 0)
            have k2 := cell_regrown (HS3.out.pr.box.cell 1)
            have k3 := cell_regrown (HS3.out.pr.gb.box.cell 0)
            have k4 := HS3.out.pr.gb.box.cell 1
            obtain ⟨AB, cB, eB, hrB⟩ := own_slice HS3.out.pr.gb.met
            rw [eB] at k4
            replace k4 := cell_regrown k4
            have hiM : i < m.length := by have := HSD.out.len; omega
            obtain ⟨adB, uB, rfl, hblB, hxB, k5⟩ := hrB.at_ hiM
            rw [u32s_get (by rw [oopsOf_len]; exact hiM), oops_oAt] at hxB
            injection hxB with hxB
            subst hxB
            replace k5 := cell_regrown k5
            have hml : m.length < 9223372036854775807 := by have := HSD.out.len; omega
            clear hrB eB hblB
            generalize hou : oAt m i = u at *
            have HOU := Lib.hid hou
            have hu32 : u < 4294967296 := by
              have h1 := HM.isB_lt HISB.out; have h2 := GB.fit.marks; have h3 := GB.fit.room; have h4 := GB.fit.hi; omega
            clear hou
            refine wpIn_wide.2 ?_
            refine wp_region_below_tail 17 (by kernel_rfl) (by kernel_rfl) ?_
            simp only [List.take_succ_cons, List.take_zero, List.drop_succ_cons, List.drop_zero]
            repeat (quiet_step (fail))
            refine wpQuiet_nil ?_
            intro wq hwq
            obtain ⟨⟨dq, osq⟩, hw''⟩ := hwq
            subst hw''
            have hbq := below_regrown W3 dq osq
            have HS4 := Lib.hid (HS3.out.below hbq)
            have HBI4 := Lib.hid (HBI3.out.below hbq HBI3.out.lt)
            have HMK4 := Lib.hid (HMK3.out.below hbq)
            have HO4 := Lib.hid (HO3.out.below hbq)
            clear k0 k1 k2 k3 k4 k5 hbq HS3 HBI3 HMK3 HO3
            generalize grow (redrawn W3 dq) osq = W4 at *
            go_wp2_with fail
            refine (names_any q.g u W4).mono ?_
            rintro e W5 ⟨rfl, rfl⟩
            go_wp2_with fail
            have hbe : Below W4.heap.size W4 ((W4.alloc (.cells #[.pointer (some ⟨q.g, 0, none⟩)] 27)).alloc (.cells #[.int .u32 (u : Nat)] 50)) := ((Below.refl _ _).alloc (Nat.le_refl _) _).alloc (by simp) _
            have BH := (Blk.new W4 27 #[.pointer (some ⟨q.g, 0, none⟩)]).alloc (.cells #[.int .u32 (u : Nat)] 50)
            have BO := Blk.new (W4.alloc (.cells #[.pointer (some ⟨q.g, 0, none⟩)] 27)) 50 #[.int .u32 (u : Nat)]
            rw [World.size_alloc] at BO
            have HS5 := Lib.hid (HS4.out.below hbe)
            have HBI5 := Lib.hid (HBI4.out.below hbe HBI4.out.lt)
            have HMK5 := Lib.hid (HMK4.out.below hbe)
            have HO5 := Lib.hid (HO4.out.below hbe)
            have hdl : ∀ D, ({ target := .collected D, args := #[] } : Deferred) ∈ ds → D < W4.heap.size := fun D hD => by
              obtain ⟨D', h1, _, h3⟩ := HMK4.out.at_ _ hD
              injection h1 with h1; injection h1 with h1
              subst h1
              exact lt_of_get h3
            have hnr : ¬ r'.has (W4.heap.size + 1) := fun e => by have := (HS4.out.pr.rLow e).2; omega
            have hmA : x.mA < W4.heap.size := HS4.out.pr.ga.num.lt
            have hmB : x.mB < W4.heap.size := HS4.out.pr.gb.num.lt
            have hw0 : W0.heap.size ≤ W4.heap.size := HS4.out.base.size
            unfold ptr
            generalize hW5 : (W4.alloc (.cells #[.pointer (some ⟨q.g, 0, none⟩)] 27)).alloc (.cells #[.int .u32 (u : Nat)] 50) = W5 at *
            have hs5 : W5.heap.size = W4.heap.size + 2 := by rw [← hW5]; simp
            generalize W4.heap.size = Bh at *
            clear hW5 hbe HS4 HBI4 HMK4 HO4
            have HSP5 := Lib.hid (show NmSt W5 q h Bh (Bh + 1) u from ⟨HHB.out.below HS5.out.base, sp.below HS5.out.base, BH.cell 0, BO.cell 0⟩)
            have hN := nmN_le GB.fit u (HM.isB_hd GB.laid.heads HISB.out)
            have HDL := Lib.hid hdl
            have HNR := Lib.hid hnr
            clear hdl hnr
            gi_wp2_with fail
            refine wpIn_rangeFunc_ownH (F := Fence.wide) rfl (by omega) (gf := 78) (lb := #[.pointer (some ⟨Bh, 0, none⟩), .pointer (some ⟨Bh + 1, 0, none⟩)]) rfl trivial (enters_of Tryd.func78 (by kernel_rfl) rfl)
              (names_stops HSP5.out GB.fit GB.laid.heads hu32 HISB.out 5 (fun A B => KpG W0.heap.size Bh (Bh + 1) A B) (KpG.need HHB.out sp)) (fun a b => KpG.trans a b) (fun W l o o' h1 h2 h3 _ => KpG.book W l o o' (by omega) (by omega) (by omega) h2 h3) (Below.refl _ _) (fun _ => rfl)
              (fun pre W => ∃ vo, OthSt W0 r' bO vo (pre.map (h.nmAt u)) W ∧ vo.ownBlock ≠ some (Bh + 1) ∧ WkSt W0 x bP (.pointer (some ⟨p.g, 0, none⟩)) (.pointer (some ⟨q.g, 0, none⟩)) r' (.int .i64 0) (.slice none 0 0) (.int .i64 0) l m ps W ∧ Blk W bI 3 #[.int .i64 i] ∧ Marks W0.heap.size ds W ∧ Blk W Bh 27 #[.pointer (some ⟨q.g, 0, none⟩)] ∧ Blk W (Bh + 1) 50 #[.int .u32 (u : Nat)])
              (fun c pre W => False)
              (fun pre A B row ⟨vo, h1, h2, h3, h4, h5, h6, h7⟩ hg hr => ⟨vo, h1.own' hg hr, h2, h3.own' (by omega) (by omega) (by omega) hg hr, blk_own' h4 hg hr, h5.own' (fun D hD => by have := HDL.out D hD; omega) hg hr, blk_own' h6 hg hr, blk_own' h7 hg hr⟩)
              (fun c pre A B row h _ _ => h.elim)
              ⟨_, HO5.out, (fun e => by cases e), HS5.out, HBI5.out, HMK5.out, BH, BO⟩
              (fun x' a' W => a' = { tmps := frameWkC bO (h.nmAt u x') (fun n => a'.tmps.toList.getD n undef), defers := [] })
              (fun x a' _ X Y row hs hg hr => hs)
              ?assign ?body ?done (fun D c pre W _ _ h => h.elim)
            case assign =>
              rintro lp pre x' W K hI hK
              rw [show nmV h u x' = #[.int .i64 ((x' : Int) - 1), .int .u32 (h.nmAt u x' : Nat)] from rfl]
              have HK := Lib.hid hK
              have HIP := Lib.hid hI
              clear hK hI
              generalize h.nmAt u x' = v at *
              gi_wp2_with fail
              exact HK.out _ _ ((KeepsOthers.refl _).from _) ⟨rfl, rfl, rfl, Nat.le_refl _, fun _ _ => rfl, rfl, rfl, fun _ _ b => b⟩ HIP.out rfl
            case body =>
              rintro lp pre x' a' W hl ⟨r0, hr0⟩ ⟨vo, O, hvo, S, BI, MK, BH, BO⟩ ha hltx
              have hvl := HM.nmAt_lt GB.fit u x'
              have HSN := Lib.hid (show (pre ++ [x']).map (h.nmAt u) = pre.map (h.nmAt u) ++ [h.nmAt u x'] by simp)
              have hxl : (pre.map (h.nmAt u)).length ≤ 2000000 := by rw [List.length_map]; omega
              generalize h.nmAt u x' = v at *
              generalize pre.map (h.nmAt u) = xs at *
              generalize (fun n => a'.tmps.toList.getD n undef) = g2 at ha
              unfold frameWkC at ha
              subst ha
              have HO6 := Lib.hid O
              have HS6 := Lib.hid S
              have HV6 := Lib.hid (And.intro hvo (And.intro BI (And.intro MK (And.intro BH BO))))
              have k0 := O.bo.cell 0
              have z0 := O.bo.frozen 0
              have hbl : bO < W.heap.size := O.bo.lt
              have hw6 : W0.heap.size ≤ W.heap.size := S.base.size
              obtain ⟨i0, hi0, hz0, hz1, hz2⟩ := info_parts info_oop
              clear O S hvo BI MK BH BO
              apply wpIn_block
              refine wpIn_region_plain (by kernel_rfl) (by rintro ⟨a, w, hh⟩; exact hh) ?_
              go_wp2_with (at_builtin; refine wpList_append_any _ rfl (.tmp 69) (.tmp 71) _ rfl W0.heap.size 50 i0 _ 1 4 Tryd.underlying23 hi0 hz0 hz1 hz2 rfl (by omega) vo xs.length _ rfl (HO6.out.own.alloc _) (W.heap.size + 1) (some ⟨W.heap.size, 0, none⟩) 1 1 (u32s [v]) rfl ⟨rfl, fun _ => ⟨_, rfl, by simp, cell_one_new _ _ _⟩⟩ (one_u32s _) (by simp only [maxLen]; omega) (by omega) (by simp; omega) ?_; intro v1 w5 hown5 hgrow5 hat5; obtain ⟨A5, c5, rfl, -⟩ := own_slice hown5; have G5 := Grows.alloc_ _ _ _ (Grows.of hgrow5 hat5); have BB5 := HO6.out.bo.same (G5.far hbl (own_ne_blk HO6.out.own HO6.out.bo (by decide))); have k5 := BB5.cell 0; have z5 := BB5.frozen 0)
              have hown6 : w5.ownsRow W0.heap.size 50 1 (.slice A5 (xs.length + 1) c5) (xs ++ [v]).length (u32s (xs ++ [v])) := by
                rw [show u32s (xs ++ [v]) = u32s xs ++ u32s [v] by simp [u32s], show (xs ++ [v]).length = xs.length + 1 by simp]
                exact hown5
              obtain ⟨O7, S7⟩ := HO6.out.grow HS6.out hown6 G5
              obtain ⟨hvo, BI, MK, BH, BO⟩ := HV6.out
              have hboN : bO ≠ Bh + 1 := HO6.out.bo.ne_ BO (by decide)
              exact ⟨HO6.out.keeps G5 _ _, HO6.out.kpG hw6 G5 _ BH BO hvo, _, by rw [HSN.out]; exact O7, (fun e => by
                rcases G5.at_ _ e with e' | e'
                · exact hvo e'
                · have := BO.lt; omega), S7, BI.same (HO6.out.blk G5 _ BI (by decide) (by decide)), HO6.out.marks G5 _ MK, BH.same (HO6.out.blk G5 _ BH (by decide) (by decide)), BO.same (HO6.out.other G5 BO.lt hvo (fun e => hboN e.symm) _)⟩
            case done =>
              rintro D xs W hD rfl ⟨vo, O, hvo, S, BI, MK, BH, BO⟩ hK
              have HO3 := Lib.hid O
              have HS3 := Lib.hid S
              have HBI3 := Lib.hid BI
              have HMK3 := Lib.hid (MK.cons (by omega) hK (fun D' hD' => by have := HDL.out D' hD'; omega))
              clear O S BI MK BH BO hK hvo HSP5 HS5 HBI5 HMK5 HO5 HDL HNR hN
              have k0 := cell_regrown (HBI3.out.cell 0)
              have k1 := cell_regrown (HS3.out.box.cell 0)
              have k2 := cell_regrown (HS3.out.pr.box.cell 0)
              have k3 := cell_regrown (HS3.out.pr.ga.box.cell 0)
              have k4 := HS3.out.pr.ga.box.cell 1
              obtain ⟨AA', cA', eA, hrA⟩ := own_slice HS3.out.pr.ga.met
              rw [eA] at k4
              replace k4 := cell_regrown k4
              obtain ⟨adA, uA, rfl, hblA, hxA, k5⟩ := hrA.at_ HLT.out
              rw [u32s_get (by rw [oopsOf_len]; exact HLT.out), oops_oAt] at hxA
              injection hxA with hxA
              subst hxA
              replace k5 := cell_regrown k5
              have hlt := HLT.out
              have hml : l.length < 9223372036854775807 := by omega
              clear hrA eA hblA
              generalize hoo : oAt l i = o at *
              have HOO := Lib.hid hoo
              have ho32 : o < 4294967296 := by
                have h1 := HM.isB_lt HISA.out; have h2 := GA.fit.marks; have h3 := GA.fit.room; have h4 := GA.fit.hi; omega
              clear hoo
              gi_upto_region 14 with fail
              refine wpIn_wide.2 ?_
              refine wp_region_below_tail 17 (by kernel_rfl) (by kernel_rfl) ?_
              simp only [List.take_succ_cons, List.take_zero, List.drop_succ_cons, List.drop_zero]
              repeat (quiet_step (fail))
              refine wpQuiet_nil ?_
              intro wq hwq
              obtain ⟨⟨dq, osq⟩, hw''⟩ := hwq
              subst hw''
              have hbq := below_regrown W dq osq
              have HS4 := Lib.hid (HS3.out.below hbq)
              have HBI4 := Lib.hid (HBI3.out.below hbq HBI3.out.lt)
              have HMK4 := Lib.hid (HMK3.out.below hbq)
              have HO4 := Lib.hid (HO3.out.below hbq)
              clear k0 k1 k2 k3 k4 k5 hbq HS3 HBI3 HMK3 HO3
              generalize grow (redrawn W dq) osq = W4 at *
              go_wp2_with fail
              refine (names_any p.g o W4).mono ?_
              rintro e W5 ⟨rfl, rfl⟩
              go_wp2_with fail
              have hbe : Below W4.heap.size W4 ((W4.alloc (.cells #[.pointer (some ⟨p.g, 0, none⟩)] 27)).alloc (.cells #[.int .u32 (o : Nat)] 50)) := ((Below.refl _ _).alloc (Nat.le_refl _) _).alloc (by simp) _
              have BH := (Blk.new W4 27 #[.pointer (some ⟨p.g, 0, none⟩)]).alloc (.cells #[.int .u32 (o : Nat)] 50)
              have BO := Blk.new (W4.alloc (.cells #[.pointer (some ⟨p.g, 0, none⟩)] 27)) 50 #[.int .u32 (o : Nat)]
              rw [World.size_alloc] at BO
              have HS5 := Lib.hid (HS4.out.below hbe)
              have HBI5 := Lib.hid (HBI4.out.below hbe HBI4.out.lt)
              have HMK5 := Lib.hid (HMK4.out.below hbe)
              have HO5 := Lib.hid (HO4.out.below hbe)
              have hdl : ∀ D', ({ target := .collected D', args := #[] } : Deferred) ∈ ({ target := .collected D, args := #[] } :: ds) → D' < W4.heap.size := fun D' hD' => by
                obtain ⟨D'', h1, _, h3⟩ := HMK4.out.at_ _ hD'
                injection h1 with h1; injection h1 with h1
                subst h1
                exact lt_of_get h3
              have hnr : ¬ r'.has (W4.heap.size + 1) := fun e => by have := (HS4.out.pr.rLow e).2; omega
              have hmA : x.mA < W4.heap.size := HS4.out.pr.ga.num.lt
              have hmB : x.mB < W4.heap.size := HS4.out.pr.gb.num.lt
              have hw0 : W0.heap.size ≤ W4.heap.size := HS4.out.base.size
              have hbI4 : bI < W4.heap.size := HBI4.out.lt
              have HMAB := Lib.hid (show x.mA < W4.heap.size + 2 ∧ x.mB < W4.heap.size + 2 by omega)
              unfold ptr
              generalize hW5 : (W4.alloc (.cells #[.pointer (some ⟨p.g, 0, none⟩)] 27)).alloc (.cells #[.int .u32 (o : Nat)] 50) = W5 at *
              have hs5 : W5.heap.size = W4.heap.size + 2 := by rw [← hW5]; simp
              rw [← hs5] at HMAB
              generalize W4.heap.size = Bh at *
              clear hW5 hbe HS4 HBI4 HMK4 HO4
              have HSP5 := Lib.hid (show NmSt W5 p g Bh (Bh + 1) o from ⟨HHA.out.below HS5.out.base, sp.below HS5.out.base, BH.cell 0, BO.cell 0⟩)
              have hN := nmN_le GA.fit o (HM.isB_hd GA.laid.heads HISA.out)
              have HDL := Lib.hid hdl
              have HNR := Lib.hid hnr
              have HNN := Lib.hid (show h.nmN u = g.nmN o from odM_nm _ _ HON.out)
              clear hdl hnr
              gi_wp2_with fail
              refine wpIn_rangeFunc_ownH (F := Fence.wide) rfl (by omega) (gf := 78) (lb := #[.pointer (some ⟨Bh, 0, none⟩), .pointer (some ⟨Bh + 1, 0, none⟩)]) rfl trivial (enters_of Tryd.func78 (by kernel_rfl) rfl)
                (names_fin HSP5.out GA.fit GA.laid.heads ho32 HISA.out 5 (fun A B => KpG W0.heap.size Bh (Bh + 1) A B) (KpG.need HHA.out sp)) (fun a b => KpG.trans a b) (fun W l o o' h1 h2 h3 _ => KpG.book W l o o' (by omega) (by omega) (by omega) h2 h3) (Below.refl _ _) (fun _ => rfl)
                (fun pre W => ∃ l2 m2 r2 ps2, namesP g.nmAt h.nmAt l m i (pre.map (·.1)) = .on l2 m2 ∧ l <+: l2 ∧ Side l2 m2 ∧ (∀ y ∈ oopsOf l2, g.isB y = true) ∧ (∀ y ∈ oopsOf m2, h.isB y = true) ∧ WkSt W0 x bP (.pointer (some ⟨p.g, 0, none⟩)) (.pointer (some ⟨q.g, 0, none⟩)) r2 (.int .i64 0) (.slice none 0 0) (.int .i64 0) l2 m2 ps2 W ∧
                  OthSt W0 r2 bO vo ((List.range (h.nmN u)).map (h.nmAt u)) W ∧ Blk W bI 3 #[.int .i64 i] ∧ ¬ r2.has bI ∧ ¬ r2.has (Bh + 1) ∧ Marks W0.heap.size ({ target := .collected D, args := #[] } :: ds) W ∧ Blk W Bh 27 #[.pointer (some ⟨p.g, 0, none⟩)] ∧ Blk W (Bh + 1) 50 #[.int .u32 (o : Nat)])
                (fun c pre W => c = .ret ∧ ∃ d, namesP g.nmAt h.nmAt l m i (pre.map (·.1)) = .off d ∧ Below W0.heap.size W0 W ∧ ToldAt W x.gP d ∧ Marks W0.heap.size ({ target := .collected D, args := #[] } :: ds) W)
                (fun pre A B row ⟨l2, m2, r2, ps2, h1, h2, h3, h4, h5, h6, h7, h8, h9, h10, h11, h12, h13⟩ hg hr => ⟨l2, m2, r2, ps2, h1, h2, h3, h4, h5, h6.own' (by omega) (by omega) (by omega) hg hr, h7.own' hg hr, blk_own' h8 hg hr, h9, h10, h11.own' (fun D hD => by have := HDL.out D hD; omega) hg hr, blk_own' h12 hg hr, blk_own' h13 hg hr⟩)
                (fun c pre A B row ⟨h1, d, h2, h3, h4, h5⟩ hg hr => ⟨h1, d, h2, below_own' h3 (by omega) hg hr, h4.own' hg hr, h5.own' (fun D hD => by have := HDL.out D hD; omega) hg hr⟩)
                ⟨l, m, r', ps, rfl, List.prefix_refl _, HSD.out, HIA.out, HIB.out, HS5.out, HO5.out, HBI5.out, HNI.out, HNR.out, HMK5.out, BH, BO⟩
                (fun x' a' W => a' = { tmps := frameWkD bP bI bO ((x'.1 : Int) - 1) (g.nmAt o x'.1) (fun n => a'.tmps.toList.getD n undef), defers := [] })
                (fun x a' _ X Y row hs hg hr => hs)
                ?assign4 ?body4 ?done4 ?stop4
              case assign4 =>
                rintro lp pre x' W K hI hK
                rw [show nmV g o x'.1 = #[.int .i64 ((x'.1 : Int) - 1), .int .u32 (g.nmAt o x'.1 : Nat)] from rfl]
                have HK := Lib.hid hK
                have HIP := Lib.hid hI
                clear hK hI
                generalize g.nmAt o x'.1 = v at *
                gi_wp2_with fail
                exact HK.out _ _ ((KeepsOthers.refl _).from _) ⟨rfl, rfl, rfl, Nat.le_refl _, fun _ _ => rfl, rfl, rfl, fun _ _ b => b⟩ HIP.out rfl
              case body4 =>
                rintro lp pre x' a' W hl ⟨r0, hr0⟩ ⟨l2, m2, r2, ps2, h1, h2, h3, h4, h5, S, O, BI, hnI, hnO, MK, BH, BO⟩ ha hltx
                have hv32 := HM.nmAt_lt GA.fit o x'.1
                have hu232 := HM.nmAt_lt GB.fit u x'.1
                have hxn : x'.1 < h.nmN u := by rw [HNN.out]; exact x'.2
                have HPM := Lib.hid (show (pre ++ [x']).map (·.1) = pre.map (·.1) ++ [x'.1] by simp)
                have HN1 := Lib.hid h1
                have HPO := Lib.hid (fun hp => namesP_on (k := x'.1) h1 hp)
                have HPF := Lib.hid (fun hp => namesP_off (k := x'.1) h1 hp)
                have HPR := Lib.hid h2
                have HS2 := Lib.hid h3
                have HI2 := Lib.hid h4
                have HI3 := Lib.hid h5
                have HVA := Lib.hid (fun hk2 => names_isB GA HISA.out x'.2 hk2)
                have HVB := Lib.hid (fun hk2 => names_isB GB HISB.out hxn hk2)
                have hll2 : l2.length ≤ 2097152 := graph_bound GA.fit h3.ndl h4
                have hil2 : i < l2.length := Nat.lt_of_lt_of_le HLT.out h2.length_le
                have HPW := Lib.hid (show pathM l2 i = pathM l i from pathM_pre h2 HSD.out.up HLT.out)
                rw [HOO.out, HOU.out] at HPO HPF
                obtain ⟨AO, cO, eO, hrO⟩ := own_slice O.own
                obtain ⟨adO, uO, eAO, hblO, hxO, kO⟩ := hrO.at_ (k := x'.1) (by rw [List.length_map, List.length_range]; exact hxn)
                subst eAO
                have huO : uO = .int .u32 (h.nmAt u x'.1 : Nat) := by
                  rw [u32s_get (by rw [List.length_map, List.length_range]; exact hxn), List.getD_eq_getElem?_getD, List.getElem?_map, List.getElem?_range hxn] at hxO
                  injection hxO with hxO
                  exact hxO.symm
                subst huO
                obtain ⟨AP, cP, eP, hrP⟩ := own_slice S.pr.paths
                obtain ⟨adP, uP, eAP, hblP, hxP, kP⟩ := hrP.at_ (k := i) (by rw [S.pr.plen]; exact hil2)
                subst eAP
                obtain ⟨gw, cw, hvw, hroww, -, -, -⟩ := S.pr.ways i hil2
                rw [HPW.out] at hvw hroww
                have huP : uP = .slice (some ⟨gw, 0, none⟩) (pathM l i).length cw := by
                  rw [← hvw, List.getD_eq_getElem?_getD, hxP]; rfl
                subst huP
                have hpl := pathM_len l i
                have hpp := pathM_pos l i
                rw [List.length_map, List.length_range] at eO
                have hNu : h.nmN u < 9223372036854775807 := by rw [HNN.out]; omega
                have hpsl : ps2.length < 9223372036854775807 := by rw [S.pr.plen]; omega
                have hips : i < ps2.length := by rw [S.pr.plen]; exact hil2
                have HSK := Lib.hid (fun (w' : World) (hb : Below W.heap.size W w') => show w'.cell? ⟨bP, 0, none⟩ = some (.pointer (some ⟨x.gP, 0, none⟩)) ∧ w'.cell? ⟨bO, 0, none⟩ = some (.slice (some adO) (h.nmN u) cO) ∧ w'.cell? (adO.add x'.1) = some (.int .u32 (h.nmAt u x'.1 : Nat)) ∧ w'.cell? ⟨x.gP, 2, none⟩ = some (.slice (some adP) ps2.length cP) ∧ w'.cell? ⟨bI, 0, none⟩ = some (.int .i64 i) ∧ w'.cell? (adP.add i) = some (.slice (some ⟨gw, 0, none⟩) (pathM l i).length cw) from by
                  refine ⟨(S.box.below hb S.box.lt).cell 0, ?_, (hb.cell (World.block_lt_of_cell? _ _ kO)).trans kO, ?_, (BI.below hb BI.lt).cell 0, (hb.cell (World.block_lt_of_cell? _ _ kP)).trans kP⟩
                  · have := (O.bo.below hb O.bo.lt).cell 0
                    rw [eO] at this
                    exact this
                  · have := (S.pr.box.below hb S.pr.box.lt).cell 2
                    rw [eP] at this
                    exact this)
                have HWY := Lib.hid hroww
                have HSS := Lib.hid S
                have HOS := Lib.hid O
                have HXX := Lib.hid (And.intro BI (And.intro hnI (And.intro hnO (And.intro MK (And.intro BH BO)))))
                have HKP := Lib.hid (And.intro kO kP)
                have hbOl : Bh + 1 < W.heap.size := BO.lt
                have hWW : W0.heap.size ≤ W.heap.size := S.base.size
                clear h1 h2 h3 h4 h5 S O BI hnI hnO MK BH BO eO hrO hxO kO eP hrP hxP kP hvw hroww hblO hblP
                generalize hv : g.nmAt o x'.1 = v at *
                generalize hu2 : h.nmAt u x'.1 = u2 at *
                have HV := Lib.hid hv
                have HU2 := Lib.hid hu2
                clear hv hu2
                generalize hfx : x'.1 = fx at *
                have HFX := Lib.hid hfx
                clear hfx
                have hfb : fx < 9223372036854775807 := by omega
                generalize (fun n => a'.tmps.toList.getD n undef) = g2 at ha
                unfold frameWkD at ha
                subst ha
                have hfw : IntKind.i64.wrap (fx : Int) = fx := IntWalk.i64_in _ (by omega)
                have hBW := Lib.hid (below_drew (Below.refl W.heap.size W))
                have hpl9 : (pathM l i).length ≤ 9000000 := by omega
                have hll4 : l2.length ≤ 4000000 := by omega
                have HVAL := Lib.hid (fun (w9 : World) (gq cq : Nat) (hb : Below W.heap.size W w9) (hrow : Row w9 gq 3 cq (intZ (pathM l i ++ [(fx : Int) - 1]))) (hgq : W.heap.size ≤ gq) =>
                  values_body HSS.out hb hrow hgq HI2.out HI3.out v u2 hv32 hu232 hpl9 HS2.out i hil2 HPW.out hll4)
                have HON4 := Lib.hid (fun (w9 w10 : World) (r3 : PRows) (ps3 : List Value) (hb : Below W.heap.size W w9) (hp0 : pairK l2 m2 v u2 = 0) (P10 : PAt w10 W0.heap.size x (.pointer (some ⟨p.g, 0, none⟩)) (.pointer (some ⟨q.g, 0, none⟩)) r3 (.int .i64 0) (.slice none 0 0) (.int .i64 0) (meetN l2 v i ((fx : Int) - 1) 0) (meetN m2 u2 i ((fx : Int) - 1) 0) (meetN l2 v i ((fx : Int) - 1) 0) ps3) (s10 : PStep x r2 r3 w9 w10) =>
                  show KeepsFrom W5.heap.size W w10 ∧ KpG W0.heap.size Bh (Bh + 1) W w10 ∧ ∃ l2 m2 r2 ps2, namesP g.nmAt h.nmAt l m i ((pre ++ [x']).map (·.1)) = .on l2 m2 ∧ l <+: l2 ∧ Side l2 m2 ∧ (∀ y ∈ oopsOf l2, g.isB y = true) ∧ (∀ y ∈ oopsOf m2, h.isB y = true) ∧ WkSt W0 x bP (.pointer (some ⟨p.g, 0, none⟩)) (.pointer (some ⟨q.g, 0, none⟩)) r2 (.int .i64 0) (.slice none 0 0) (.int .i64 0) l2 m2 ps2 w10 ∧
                    OthSt W0 r2 bO vo ((List.range (h.nmN u)).map (h.nmAt u)) w10 ∧ Blk w10 bI 3 #[.int .i64 i] ∧ ¬ r2.has bI ∧ ¬ r2.has (Bh + 1) ∧ Marks W0.heap.size ({ target := .collected D, args := #[] } :: ds) w10 ∧ Blk w10 Bh 27 #[.pointer (some ⟨p.g, 0, none⟩)] ∧ Blk w10 (Bh + 1) 50 #[.int .u32 (o : Nat)] from by
                  obtain ⟨BI, hnI, hnO, MK, BH, BO⟩ := HXX.out
                  have S9 := HSS.out.below hb
                  have O9 := HOS.out.below hb
                  have BI9 := BI.below hb BI.lt
                  have BH9 := BH.below hb BH.lt
                  have BO9 := BO.below hb BO.lt
                  refine ⟨(KeepsFrom.of_below hb).trans (s10.keeps S9.pr HMAB.out.1 HMAB.out.2), (KpG.of_below hb hWW BH.lt BO.lt).trans (s10.kpG S9.pr BH9 BO9 hnO), _, _, r3, ps3, ?_, ?_, HS2.out.meet hp0 _ _ _ (Int.ofNat_lt.2 hil2), meetN_all HI2.out HVA.out _ _ _, meetN_all HI3.out HVB.out _ _ _, S9.step P10 s10, O9.pstep S9.pr s10, BI9.same (s10.blkD S9.pr BI9 (by decide) (by decide) hnI), s10.no BI9.lt hnI, s10.no BO9.lt hnO, s10.marks S9.pr (MK.below hb), BH9.same (s10.blk S9.pr BH9 (by decide) (by decide) (by decide) (by decide) (by decide)), BO9.same (s10.blkD S9.pr BO9 (by decide) (by decide) hnO)⟩
                  · rw [HPM.out]; exact HPO.out hp0
                  · exact HPR.out.trans (meetN_pre _ _ _ _ _))
                have HOF4 := Lib.hid (fun (w9 w10 : World) (e : Ending) (hb : Below W.heap.size W w9) (hp0 : pairK l2 m2 v u2 ≠ 0) (hD : DifferP W0.heap.size x (.pointer (some ⟨p.g, 0, none⟩)) (.pointer (some ⟨q.g, 0, none⟩)) r2 l2 m2 l2 ps2 (pairK l2 m2 v u2) (pathM l i ++ [(fx : Int) - 1]) 0 w9 e w10) =>
                  show e = .returned (.bool true) ∧ KeepsFrom W5.heap.size W w10 ∧ (Code.ret = .ret ∧ ∃ d, namesP g.nmAt h.nmAt l m i ((pre ++ [x']).map (·.1)) = .off d ∧ Below W0.heap.size W0 w10 ∧ ToldAt w10 x.gP d ∧ Marks W0.heap.size ({ target := .collected D, args := #[] } :: ds) w10) from by
                  obtain ⟨BI, hnI, hnO, MK, BH, BO⟩ := HXX.out
                  have S9 := HSS.out.below hb
                  obtain ⟨rfl, s10, gD, cD, P10, hrow10, hgD⟩ := hD
                  refine ⟨rfl, (KeepsFrom.of_below hb).trans (s10.keeps S9.pr HMAB.out.1 HMAB.out.2), rfl, ⟨pairK l2 m2 v u2, pathM l i ++ [(fx : Int) - 1], 0⟩, ?_, S9.base' s10, told_of P10 hrow10 (Nat.lt_of_lt_of_le S9.pr.box.lt hgD), s10.marks S9.pr (MK.below hb)⟩
                  rw [HPM.out]; exact HPF.out hp0)
                have hS := HSK.out _ hBW.out
                have HRW := Lib.hid (HWY.out.below hBW.out)
                have hWD : W.heap.size = W.drew.heap.size := rfl
                have HWD := Lib.hid hWD
                clear hWD
                obtain ⟨i0, hi0, hz0, hz1, hz2⟩ := info_parts info_int
                generalize hPG : ownPostG W5.heap.size (fun A B => KpG W0.heap.size Bh (Bh + 1) A B) _ _ (pre ++ [x']) W = PG
                have HPG := Lib.hid hPG
                clear hPG
                gi_upto_region 17 with fail
                refine wpIn_region_U 18 (fun w' => w'.cell? ⟨bP, 0, none⟩ = some (.pointer (some ⟨x.gP, 0, none⟩)) ∧ w'.cell? ⟨bO, 0, none⟩ = some (.slice (some adO) (h.nmN u) cO) ∧ w'.cell? (adO.add fx) = some (.int .u32 (u2 : Nat)) ∧ w'.cell? ⟨x.gP, 2, none⟩ = some (.slice (some adP) ps2.length cP) ∧ w'.cell? ⟨bI, 0, none⟩ = some (.int .i64 i) ∧ w'.cell? (adP.add i) = some (.slice (some ⟨gw, 0, none⟩) (pathM l i).length cw)) (by kernel_rfl) (by kernel_rfl) ?_
                generalize W.drew = W7 at *
                refine U_readC 0 [18] (v := .pointer (some ⟨x.gP, 0, none⟩)) rfl (by kernel_rfl) (fun _ _ _ h => h) hS (by rfl) (fun w' hw' => by obtain ⟨h0, h1, h2, h3, h4, h5⟩ := hw'; go_simp) ?_
                try simp only [Act.put, List.setIfInBounds_toArray, List.set_cons_zero, List.set_cons_succ]
                refine U_readC 1 [18] (v := .int .u32 (v : Int)) rfl (by kernel_rfl) (fun _ _ _ h => h) hS (by rfl) (fun w' hw' => by obtain ⟨h0, h1, h2, h3, h4, h5⟩ := hw'; go_simp) ?_
                try simp only [Act.put, List.setIfInBounds_toArray, List.set_cons_zero, List.set_cons_succ]
                refine U_readC 3 [4, 5, 6, 18] (v := .int .i64 ((fx : Int) - 1)) rfl (by kernel_rfl) (fun _ _ _ h => h) hS (by rfl) (fun w' hw' => by obtain ⟨h0, h1, h2, h3, h4, h5⟩ := hw'; go_simp) ?_
                try simp only [Act.put, List.setIfInBounds_toArray, List.set_cons_zero, List.set_cons_succ]
                refine U_readC 2 [5, 6, 18] (v := .slice (some adO) (h.nmN u) cO) rfl (by kernel_rfl) (fun _ _ _ h => h) hS (by rfl) (fun w' hw' => by obtain ⟨h0, h1, h2, h3, h4, h5⟩ := hw'; go_simp) ?_
                try simp only [Act.put, List.setIfInBounds_toArray, List.set_cons_zero, List.set_cons_succ]
                refine U_readC 4 [5, 6, 18] (v := .int .i64 (fx : Int)) rfl (by kernel_rfl) (fun _ _ _ h => h) hS (by rfl) (fun w' hw' => by obtain ⟨h0, h1, h2, h3, h4, h5⟩ := hw'; go_simp) ?_
                try simp only [Act.put, List.setIfInBounds_toArray, List.set_cons_zero, List.set_cons_succ]
                refine U_readC 5 [6, 18] (v := .pointer (some (adO.add fx))) rfl (by kernel_rfl) (fun _ _ _ h => h) hS (by rfl) (fun w' hw' => by obtain ⟨h0, h1, h2, h3, h4, h5⟩ := hw'; go_simp) ?_
                try simp only [Act.put, List.setIfInBounds_toArray, List.set_cons_zero, List.set_cons_succ]
                refine U_readC 6 [18] (v := .int .u32 (u2 : Int)) rfl (by kernel_rfl) (fun _ _ _ h => h) hS (by rfl) (fun w' hw' => by obtain ⟨h0, h1, h2, h3, h4, h5⟩ := hw'; go_simp) ?_
                try simp only [Act.put, List.setIfInBounds_toArray, List.set_cons_zero, List.set_cons_succ]
                refine U_readC 7 [8, 9, 10, 12, 13, 14, 17, 18] (v := .pointer (some ⟨x.gP, 0, none⟩)) rfl (by kernel_rfl) (fun _ _ _ h => h) hS (by rfl) (fun w' hw' => by obtain ⟨h0, h1, h2, h3, h4, h5⟩ := hw'; go_simp) ?_
                try simp only [Act.put, List.setIfInBounds_toArray, List.set_cons_zero, List.set_cons_succ]
                refine U_readC 8 [9, 10, 12, 13, 14, 17, 18] (v := .pointer (some ⟨x.gP, 0, none⟩)) rfl (by kernel_rfl) (fun _ _ _ h => h) hS (by rfl) (fun w' hw' => by obtain ⟨h0, h1, h2, h3, h4, h5⟩ := hw'; go_simp) ?_
                try simp only [Act.put, List.setIfInBounds_toArray, List.set_cons_zero, List.set_cons_succ]
                refine U_readC 9 [10, 12, 13, 14, 17, 18] (v := .pointer (some ⟨x.gP, 2, none⟩)) rfl (by kernel_rfl) (fun _ _ _ h => h) hS (by rfl) (fun w' hw' => by obtain ⟨h0, h1, h2, h3, h4, h5⟩ := hw'; go_simp) ?_
                try simp only [Act.put, List.setIfInBounds_toArray, List.set_cons_zero, List.set_cons_succ]
                refine U_readC 10 [12, 13, 14, 17, 18] (v := .slice (some adP) ps2.length cP) rfl (by kernel_rfl) (fun _ _ _ h => h) hS (by rfl) (fun w' hw' => by obtain ⟨h0, h1, h2, h3, h4, h5⟩ := hw'; go_simp) ?_
                try simp only [Act.put, List.setIfInBounds_toArray, List.set_cons_zero, List.set_cons_succ]
                refine U_readC 11 [12, 13, 14, 17, 18] (v := .int .i64 (i : Int)) rfl (by kernel_rfl) (fun _ _ _ h => h) hS (by rfl) (fun w' hw' => by obtain ⟨h0, h1, h2, h3, h4, h5⟩ := hw'; go_simp) ?_
                try simp only [Act.put, List.setIfInBounds_toArray, List.set_cons_zero, List.set_cons_succ]
                refine U_readC 12 [13, 14, 17, 18] (v := .pointer (some (adP.add i))) rfl (by kernel_rfl) (fun _ _ _ h => h) hS (by rfl) (fun w' hw' => by obtain ⟨h0, h1, h2, h3, h4, h5⟩ := hw'; go_simp) ?_
                try simp only [Act.put, List.setIfInBounds_toArray, List.set_cons_zero, List.set_cons_succ]
                refine U_readC 13 [14, 17, 18] (v := .slice (some ⟨gw, 0, none⟩) (pathM l i).length cw) rfl (by kernel_rfl) (fun _ _ _ h => h) hS (by rfl) (fun w' hw' => by obtain ⟨h0, h1, h2, h3, h4, h5⟩ := hw'; go_simp) ?_
                try simp only [Act.put, List.setIfInBounds_toArray, List.set_cons_zero, List.set_cons_succ]
                refine U_readC 15 [16, 17, 18] (v := .int .i64 ((fx : Int) - 1)) rfl (by kernel_rfl) (fun _ _ _ h => h) hS (by rfl) (fun w' hw' => by obtain ⟨h0, h1, h2, h3, h4, h5⟩ := hw'; go_simp) ?_
                try simp only [Act.put, List.setIfInBounds_toArray, List.set_cons_zero, List.set_cons_succ]
                refine U_two 14 16 (by kernel_rfl) rfl rfl rfl rfl (fun K hK => ?_) (fun K hK => ?_)
                · go_simp
                  refine (clone_int (c := cw) (show Reads W7 W7.heap.size 1 (some ⟨gw, 0, none⟩) (pathM l i).length (intZ (pathM l i)) from by have := HRW.out.reads HRW.out.lt; rw [intZ_len] at this; exact this) hpp (by omega)).mono ?_
                  rintro e w4 ⟨g1, k1, rfl, hrow1, hge1, hb4⟩
                  have hB4 : Below W.heap.size W w4 := hBW.out.trans (hb4.mono (by rw [HWD.out]; exact Nat.le_refl _))
                  have hge2 : W.heap.size ≤ g1 := by have := HWD.out; omega
                  have hl4 : W.heap.size ≤ w4.heap.size := hB4.size
                  have HB4 := Lib.hid hB4
                  have hg14 : g1 < w4.heap.size := hrow1.lt
                  rw [intZ_len]
                  try dsimp only
                  refine hK _ _ (fun _ => HSK.out _ HB4.out) ?_
                  clear hK K
                  try simp only [Act.put, List.setIfInBounds_toArray, List.set_cons_zero, List.set_cons_succ]
                  refine U_one 16 (by kernel_rfl) rfl rfl (fun K hK => ?_)
                  go_simp
                  have hB4' := hB4.alloc hl4 (.cells #[.int .i64 ((fx : Int) - 1)] 3)
                  refine hK _ _ (fun _ => HSK.out _ hB4') ?_
                  clear hK K
                  try simp only [Act.put, List.setIfInBounds_toArray, List.set_cons_zero, List.set_cons_succ]
                  have hown4 : (w4.alloc (.cells #[.int .i64 ((fx : Int) - 1)] 3)).ownsRow W.heap.size 3 1 (.slice (some ⟨g1, 0, none⟩) (pathM l i).length k1) (pathM l i).length (intZ (pathM l i)) := by
                    obtain ⟨cur, h1, h2, h3, h4, h5⟩ := hrow1.alloc (.cells #[.int .i64 ((fx : Int) - 1)] 3)
                    rw [intZ_len] at h2 h5
                    exact ⟨by simp [intZ], .inr ⟨g1, k1, cur, rfl, hge2, h1, h2, h3, by simpa using h4, by simpa using h5⟩⟩
                  refine U_one 17 (by kernel_rfl) rfl rfl (fun K hK => ?_)
                  refine wp_append_any _ (.tmp 107) (.tmp 109) _ rfl W.heap.size 3 i0 _ 1 8 Tryd.underlying33 hi0 hz0 hz1 hz2 rfl (by omega) (.slice (some ⟨g1, 0, none⟩) (pathM l i).length k1) (pathM l i).length (intZ (pathM l i)) rfl hown4 _ _ 1 1 [.int .i64 ((fx : Int) - 1)] rfl (row_one' (heap_alloc_new w4 _) (Nat.lt_succ_self _)) (by simp [Value.oneCell']) (by simp only [maxLen]; omega) (by omega) (by simp; omega) ?_
                  intro v5 w5 hown5 hgrow5 hat5
                  obtain ⟨g5, c5, rfl, hrow5, -, hge5⟩ := Row.of_any hown5 (by omega)
                  have hB5 := hB4'.grown hgrow5 (by have := hB4'.size; simp at this ⊢; omega) (fun k hk => by simp [Value.ownBlock] at hk; omega)
                  rw [show intZ (pathM l i) ++ [.int .i64 ((fx : Int) - 1)] = intZ (pathM l i ++ [(fx : Int) - 1]) by simp [intZ]] at hrow5
                  have HVC := Lib.hid (HVAL.out w5 g5 c5 hB5 hrow5 hge5)
                  have HB5 := Lib.hid hB5
                  try dsimp only
                  refine hK _ _ (fun _ => HSK.out _ HB5.out) ?_
                  clear hK K
                  try simp only [Act.put, List.setIfInBounds_toArray, List.set_cons_zero, List.set_cons_succ]
                  clear hown5 hgrow5 hat5 hrow5 hB5 hb4 hrow1
                  refine U_one 18 (by kernel_rfl) rfl rfl (fun K hK => ?_)
                  go_simp
                  refine HVC.out.mono ?_
                  rintro e w10 (⟨hp0, rfl, r3, ps3, P10, s10⟩ | ⟨hp0, hD⟩)
                  · have HFIN := Lib.hid (HON4.out _ _ _ _ HB5.out hp0 P10 s10)
                    clear P10 s10
                    try dsimp only
                    refine hK _ _ (fun h => absurd h (by decide)) ?_
                    clear hK K
                    try simp only [Act.put, List.setIfInBounds_toArray, List.set_cons_zero, List.set_cons_succ]
                    refine U_done (by kernel_rfl) ?_ _
                    simp only [Calm, Exit.then]
                    gi_wp2_with fail
                    rw [← HPG.out]
                    exact HFIN.out
                  · obtain ⟨rfl, hfin⟩ := HOF4.out _ _ _ HB5.out hp0 hD
                    have HFIN := Lib.hid hfin
                    clear hfin hD
                    try dsimp only
                    refine hK _ _ (fun h => absurd h (by decide)) ?_
                    clear hK K
                    try simp only [Act.put, List.setIfInBounds_toArray, List.set_cons_zero, List.set_cons_succ]
                    refine U_done (by kernel_rfl) ?_ _
                    simp only [Calm, Exit.then]
                    gi_wp2_with fail
                    rw [← HPG.out]
                    exact ⟨HFIN.out.1, rfl, HFIN.out.2.2⟩
                · go_simp
                  have hB6 := hBW.out.alloc (by rw [← HWD.out]; exact Nat.le_refl _) (.cells #[.int .i64 ((fx : Int) - 1)] 3)
                  have HB6 := Lib.hid hB6
                  have HRW6 := Lib.hid (HRW.out.alloc (.cells #[.int .i64 ((fx : Int) - 1)] 3))
                  have hl6 : (W7.alloc (.cells #[.int .i64 ((fx : Int) - 1)] 3)).heap.size = W.heap.size + 1 := by rw [World.size_alloc, HWD.out]
                  have HL6 := Lib.hid hl6
                  clear hl6
                  refine hK _ _ (fun _ => HSK.out _ HB6.out) ?_
                  clear hK K
                  try simp only [Act.put, List.setIfInBounds_toArray, List.set_cons_zero, List.set_cons_succ]
                  refine U_one 14 (by kernel_rfl) rfl rfl (fun K hK => ?_)
                  go_simp
                  refine (clone_int (c := cw) (show Reads (W7.alloc (.cells #[.int .i64 ((fx : Int) - 1)] 3)) (W7.alloc (.cells #[.int .i64 ((fx : Int) - 1)] 3)).heap.size 1 (some ⟨gw, 0, none⟩) (pathM l i).length (intZ (pathM l i)) from by have := HRW6.out.reads HRW6.out.lt; rw [intZ_len] at this; exact this) hpp (by omega)).mono ?_
                  rintro e w4 ⟨g1, k1, rfl, hrow1, hge1, hb4⟩
                  have hB4 : Below W.heap.size W w4 := HB6.out.trans (hb4.mono (by rw [HL6.out]; omega))
                  have hge2 : W.heap.size ≤ g1 := by have := HL6.out; omega
                  have hl4 : W.heap.size ≤ w4.heap.size := hB4.size
                  have HB4 := Lib.hid hB4
                  have HC4 := Lib.hid (show w4.heap[W7.heap.size]? = some (.cells #[.int .i64 ((fx : Int) - 1)] 3) from (hb4.block _ (by simp)).trans (heap_alloc_new W7 _))
                  have hw74 : W7.heap.size < w4.heap.size := by have := hb4.size; simp at this; omega
                  rw [intZ_len]
                  try dsimp only
                  refine hK _ _ (fun _ => HSK.out _ HB4.out) ?_
                  clear hK K
                  try simp only [Act.put, List.setIfInBounds_toArray, List.set_cons_zero, List.set_cons_succ]
                  have hown4 : w4.ownsRow W.heap.size 3 1 (.slice (some ⟨g1, 0, none⟩) (pathM l i).length k1) (pathM l i).length (intZ (pathM l i)) := by
                    obtain ⟨cur, h1, h2, h3, h4, h5⟩ := hrow1
                    rw [intZ_len] at h2 h5
                    exact ⟨by simp [intZ], .inr ⟨g1, k1, cur, rfl, hge2, h1, h2, h3, by simpa using h4, by simpa using h5⟩⟩
                  refine U_one 17 (by kernel_rfl) rfl rfl (fun K hK => ?_)
                  refine wp_append_any _ (.tmp 107) (.tmp 109) _ rfl W.heap.size 3 i0 _ 1 8 Tryd.underlying33 hi0 hz0 hz1 hz2 rfl (by omega) (.slice (some ⟨g1, 0, none⟩) (pathM l i).length k1) (pathM l i).length (intZ (pathM l i)) rfl hown4 _ _ 1 1 [.int .i64 ((fx : Int) - 1)] rfl (row_one' HC4.out hw74) (by simp [Value.oneCell']) (by simp only [maxLen]; omega) (by omega) (by omega) ?_
                  intro v5 w5 hown5 hgrow5 hat5
                  obtain ⟨g5, c5, rfl, hrow5, -, hge5⟩ := Row.of_any hown5 (by omega)
                  have hB5 := hB4.grown hgrow5 (by have := hB4.size; simp at this ⊢; omega) (fun k hk => by simp [Value.ownBlock] at hk; omega)
                  rw [show intZ (pathM l i) ++ [.int .i64 ((fx : Int) - 1)] = intZ (pathM l i ++ [(fx : Int) - 1]) by simp [intZ]] at hrow5
                  have HVC := Lib.hid (HVAL.out w5 g5 c5 hB5 hrow5 hge5)
                  have HB5 := Lib.hid hB5
                  try dsimp only
                  refine hK _ _ (fun _ => HSK.out _ HB5.out) ?_
                  clear hK K
                  try simp only [Act.put, List.setIfInBounds_toArray, List.set_cons_zero, List.set_cons_succ]
                  clear hown5 hgrow5 hat5 hrow5 hB5 hb4 hrow1
                  refine U_one 18 (by kernel_rfl) rfl rfl (fun K hK => ?_)
                  go_simp
                  refine HVC.out.mono ?_
                  rintro e w10 (⟨hp0, rfl, r3, ps3, P10, s10⟩ | ⟨hp0, hD⟩)
                  · have HFIN := Lib.hid (HON4.out _ _ _ _ HB5.out hp0 P10 s10)
                    clear P10 s10
                    try dsimp only
                    refine hK _ _ (fun h => absurd h (by decide)) ?_
                    clear hK K
                    try simp only [Act.put, List.setIfInBounds_toArray, List.set_cons_zero, List.set_cons_succ]
                    refine U_done (by kernel_rfl) ?_ _
                    simp only [Calm, Exit.then]
                    gi_wp2_with fail
                    rw [← HPG.out]
                    exact HFIN.out
                  · obtain ⟨rfl, hfin⟩ := HOF4.out _ _ _ HB5.out hp0 hD
                    have HFIN := Lib.hid hfin
                    clear hfin hD
                    try dsimp only
                    refine hK _ _ (fun h => absurd h (by decide)) ?_
                    clear hK K
                    try simp only [Act.put, List.setIfInBounds_toArray, List.set_cons_zero, List.set_cons_succ]
                    refine U_done (by kernel_rfl) ?_ _
                    simp only [Calm, Exit.then]
                    gi_wp2_with fail
                    rw [← HPG.out]
                    exact ⟨HFIN.out.1, rfl, HFIN.out.2.2⟩
              case done4 =>
                rintro D2 xs W hD2 rfl ⟨l2, m2, r2, ps2, h1, h2, h3, h4, h5, h6, h7, h8, h9, h10, h11, h12, h13⟩ hK2
                rw [fin_vals, namesP_range] at h1
                have HN1 := Lib.hid h1
                have HL2 := Lib.hid (show l2 = bare (seqM g.nmN g.nmAt a (i + 1)) from by
                  have hb := HBR.out
                  rw [hb] at h1
                  have e := namesD_bareL h1
                  rw [e]
                  show _ = bare (meetK g.nmAt (seqM g.nmN g.nmAt a i) i (g.nmN ((seqM g.nmN g.nmAt a i).getD i default).o))
                  rw [show ((seqM g.nmN g.nmAt a i).getD i default).o = o by rw [← HOO.out, hb, bare_oAt]; rfl])
                have HLN := Lib.hid h2.length_le
                have HDF2 := Lib.hid (show diffD g.nmN g.nmAt h.nmAt (g.odM h ser) a b = loopD g.nmN g.nmAt h.nmAt (g.odM h ser) (fuelD - (i + 1)) (i + 1) l2 m2 from by
                  obtain ⟨fu, hf1, hf2⟩ := HFU.out
                  rw [HDF.out, hf1, hf2]
                  refine loopD_on HLT.out ?_
                  unfold roundD
                  rw [HOO.out, HOU.out, HON.out]
                  exact HN1.out)
                have HLL2 := Lib.hid (show i < L.length from by
                  have e1 := (HLP.out i hiL).length_le
                  have e2 := HLT.out
                  rw [HBR.out, bare_len] at e2
                  omega)
                have HW := Lib.hid h6
                have HB8 := Lib.hid h8
                have HM2 := Lib.hid (h11.cons (show W0.heap.size ≤ D2 by omega) hK2 (fun D' hD' => by have := HDL.out D' hD'; omega))
                have HP2 := Lib.hid (And.intro h3 (And.intro h4 h5))
                have k0 := h8.cell 0
                clear h1 h2 h3 h4 h5 h6 h7 h8 h9 h10 h11 h12 h13 hK2
                gi_wp2_with fail
                have hbn := (Below.refl W.heap.size W).alloc (Nat.le_refl _) (.cells #[.int .i64 ((i : Int) + 1)] 3)
                refine ⟨65538 - (i + 1), ?qa, i + 1, W.heap.size, { target := .collected D2, args := #[] } :: { target := .collected D, args := #[] } :: ds, l2, m2, r2, ps2, ?qf, rfl, ?qb, ?qc, HL2.out, HP2.out.1, HP2.out.2.1, HP2.out.2.2, HDF2.out, HW.out.below hbn, ?qd, ?qe, HW.out.base.size, HM2.out.below hbn⟩
                case qa => have h1 := HJ.out; have h2 := HLT.out; omega
                case qf => rfl
                case qb => have h1 := HLN.out; have h2 := HLT.out; omega
                case qc => exact HLL2.out
                case qd => exact Blk.new W 3 #[.int .i64 ((i : Int) + 1)]
                case qe => exact fun e => by have := (HW.out.pr.rLow e).2; omega
              case stop4 =>
                rintro D2 c pre W hD2 hpre ⟨rfl, d, h2, h3, h4, h5⟩ hK2
                have HM2 := Lib.hid (h5.cons (show W0.heap.size ≤ D2 by omega) hK2 (fun D' hD' => by have := HDL.out D' hD'; omega))
                have HT2 := Lib.hid (show Below W0.heap.size W0 W ∧ ToldAt W x.gP (diffD g.nmN g.nmAt h.nmAt (g.odM h ser) a b) from ⟨h3, by
                  obtain ⟨fu, hf1, -⟩ := HFU.out
                  obtain ⟨e1, e2⟩ := fin_pre hpre
                  rw [e1, namesP_range] at h2
                  rw [HDF.out, hf1, loopD_off (d := d) HLT.out (by
                    unfold roundD
                    rw [HOO.out, HOU.out, HON.out]
                    exact namesD_off h2 _ e2)]
                  exact h4⟩)
                clear h2 h3 h4 h5 hK2
                gi_wp2_with fail
                refine leaves_marks (B := W0.heap.size) _ _ HM2.out (fun w' e1 e2 e3 e4 e5 => ?_)
                refine ⟨.tuple #[], by simp [results, Tryd.results36, go_sem], ?_⟩
                exact walk_left HT2.out.1 HT2.out.2 HM2.out e1 e2 e3 e4 e5
          · obtain ⟨rfl, s2, gD, cD, P2, hrow2, hgD⟩ := hD
            have HFIN := Lib.hid (show Below W0.heap.size W0 W2 ∧ ToldAt W2 x.gP (diffD g.nmN g.nmAt h.nmAt (g.odM h ser) a b) ∧ Marks W0.heap.size ds W2 from ⟨HS1.out.base' s2, by
              obtain ⟨fu, hf1, -⟩ := HFU.out
              rw [HDF.out, hf1, loopD_off (d := ⟨kd, pathM l i, at_⟩) HLT.out (by unfold roundD; rw [HOD.out, ho])]
              exact told_of P2 hrow2 (Nat.lt_of_lt_of_le HS1.out.pr.box.lt hgD), s2.marks HS1.out.pr HMK1.out⟩)
            clear P2 s2 hrow2 HOB k0 k1 HS1 HBI1 HMK1
            gi_wp2_with fail
            refine leaves_marks (B := W0.heap.size) _ _ HFIN.out.2.2 (fun w' e1 e2 e3 e4 e5 => ?_)
            refine ⟨.tuple #[], by simp [results, Tryd.results36, go_sem], ?_⟩
            exact walk_left HFIN.out.1 HFIN.out.2.1 HFIN.out.2.2 e1 e2 e3 e4 e5
        · have hd : decide ((i : Int) < (l.length : Int)) = false := by simp; omega
          have HFIN := Lib.hid (show ToldAt W x.gP (diffD g.nmN g.nmAt h.nmAt (g.odM h ser) a b) from by
            rw [HDF.out, loopD_end hlt]
            exact ⟨HS.out.pr.box.cell 3, ⟨none, 0, HS.out.pr.box.cell 4, Reads.none_, (fun ad e => by cases e), Nat.le_refl _⟩, HS.out.pr.box.cell 5⟩)
          gi_upto_region 7 with fail
          refine wpIn_wide.2 ?_
          go_quiet (fail)
          have hbq := below_drewN (Below.refl W.heap.size W) nq
          have HB3 := Lib.hid (below_top HS.out.base hbq)
          have HMK3 := Lib.hid (HMK.out.below hbq)
          have HF3 := Lib.hid (HFIN.out.keep hbq.size fun k cs t fr ho => (hbq.block k (lt_of_get ho)).trans ho)
          clear HS HBI HMK hbq k0 k1 k2 k3 HFIN
          generalize W.drewN nq = W1 at *
          gi_wp2_with fail
          refine leaves_marks (B := W0.heap.size) _ _ HMK3.out (fun w' e1 e2 e3 e4 e5 => ?_)
          refine ⟨.tuple #[], by simp [results, Tryd.results36, go_sem], ?_⟩
          exact walk_left HB3.out HF3.out HMK3.out e1 e2 e3 e4 e5
end Go.Proofs.YtpajpdjjpgbklaaDoor
