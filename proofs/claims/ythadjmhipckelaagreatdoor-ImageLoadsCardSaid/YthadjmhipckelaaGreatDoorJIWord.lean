import Derived.Test.YthadjmhipckelaaGreatDoorJIPNew
import Derived.BigQuiet
import Derived.Laws.BytesArg
set_option linter.unusedVariables false
set_option linter.unusedSimpArgs false
set_option linter.unusedSectionVars false
namespace Go.Proofs.YthadjmhipckelaaGreatDoor
section
open Go.RowKit Go.BigFrame
attribute [local go_sem] Oper.semAt_some
theorem u32_join (i m y : Nat) (hm : m < 2 ^ i) (hy : y * 2 ^ i < 4294967296) (hm2 : m < 4294967296) : bits .or .u32 (m : Int) ((y * 2 ^ i : Nat) : Int) = ((m + y * 2 ^ i : Nat) : Int) := by
 rw [u32_or_nat _ _ hm2 hy, Nat.or_comm, nat_join i _ _ (by simp) hm, Nat.add_comm]
theorem or4 {a b c d : Nat} (ha : a < 256) (hb : b < 256) (hc : c < 256) (hd : d < 256) : bits .or .u32 (bits .or .u32 (bits .or .u32 (a : Int) ((b : Int) * 256)) ((c : Int) * 65536)) ((d : Int) * 16777216) = ((a + b * 256 + c * 65536 + d * 16777216 : Nat) : Int) := by
 have h1 := u32_join 8 a b (by omega) (by omega) (by omega)
 have h2 := u32_join 16 (a + b * 2 ^ 8) c (by omega) (by omega) (by omega)
 have h3 := u32_join 24 (a + b * 2 ^ 8 + c * 2 ^ 16) d (by omega) (by omega) (by omega)
 rw [show ((b : Int) * 256) = ((b * 2 ^ 8 : Nat) : Int) by omega, show ((c : Int) * 65536) = ((c * 2 ^ 16 : Nat) : Int) by omega, show ((d : Int) * 16777216) = ((d * 2 ^ 24 : Nat) : Int) by omega, h1, h2, h3]
set_option maxHeartbeats 8000000 in
theorem pword_any {w : World} {B g n c i : Nat} {A : Option Addr} {bs : List Nat} (hB : Blk w g 22 #[.slice A n c]) (hr : Reads w B 1 A n (u8c bs)) (hi : i + 3 < n) (hn : n ≤ 9000000) (h8 : ∀ x ∈ bs, x < 256) :
 Calls Tryz.prog 66 #[.int .i64 i, .pointer (some ⟨g, 0, none⟩)] w (fun e w' => e = .returned (.int .u32 (word4 bs i)) ∧ ∃ m, w' = w.drewN m) := by
 have hbl : bs.length = n := by have := hr.1; rw [u8c_len] at this; omega
 obtain ⟨ad, rfl, hb, hx⟩ := hr.2 (by omega)
 have hc : ∀ j, j < n → w.cell? (ad.add j) = some (.int .u8 (bs.getD j 0 : Nat)) := fun j hj => hx j _ (by
  unfold u8c
  rw [List.getElem?_map, List.getD_eq_getElem?_getD, List.getElem?_eq_getElem (by omega)]
  rfl)
 have c0 := hc i (by omega)
 have c1 : w.cell? ⟨ad.block, ad.off + (i + 1), none⟩ = some (.int .u8 (bs.getD (i + 1) 0 : Nat)) := by
  have := hc (i + 1) (by omega)
  unfold Addr.add at this
  rw [if_neg (by omega)] at this
  exact this
 have c2 : w.cell? ⟨ad.block, ad.off + (i + 2), none⟩ = some (.int .u8 (bs.getD (i + 2) 0 : Nat)) := by
  have := hc (i + 2) (by omega)
  unfold Addr.add at this
  rw [if_neg (by omega)] at this
  exact this
 have c3 : w.cell? ⟨ad.block, ad.off + (i + 3), none⟩ = some (.int .u8 (bs.getD (i + 3) 0 : Nat)) := by
  have := hc (i + 3) (by omega)
  unfold Addr.add at this
  rw [if_neg (by omega)] at this
  exact this
 have e : word4 bs i = bs.getD i 0 + bs.getD (i + 1) 0 * 256 + bs.getD (i + 2) 0 * 65536 + bs.getD (i + 3) 0 * 16777216 := rfl
 have b0 : bs.getD i 0 < 256 := getD_lt bs h8 _
 have b1 : bs.getD (i + 1) 0 < 256 := getD_lt bs h8 _
 have b2 : bs.getD (i + 2) 0 < 256 := getD_lt bs h8 _
 have b3 : bs.getD (i + 3) 0 < 256 := getD_lt bs h8 _
 rw [e]
 generalize bs.getD i 0 = x0 at *
 generalize bs.getD (i + 1) 0 = x1 at *
 generalize bs.getD (i + 2) 0 = x2 at *
 generalize bs.getD (i + 3) 0 = x3 at *
 have HO4 := or4 b0 b1 b2 b3
 have d0 : w.cell? ⟨g, 0, none⟩ = some (.slice (some ad) n c) := hB.cell 0
 clear hc hx hr hB e h8 hb
 go_enter Tryz.func66, Tryz.ntmps66
 go_upto_region 1 with fail
 go_quiet (fail)
 go_wp2_with fail
 refine bodyPost_ret (v := .int .u32 ((x0 + x1 * 256 + x2 * 65536 + x3 * 16777216 : Nat) : Int)) (by simp [results, Tryz.results66, go_sem]) rfl ?_
 exact ⟨rfl, nq, rfl⟩
end
section
open Go.RowKit
attribute [local go_sem] Oper.semAt_some
def OldP (bs : List Nat) (w : World) (e : Ending) (w' : World) : Prop :=
 Below w.heap.size w w' ∧ match oldM bs with
  | .error E => e = .returned (.tuple #[rdV 0 0 (.slice none 0 0) (.slice none 0 0), .int .i64 (E : Nat)])
  | .ok r => ∃ (A1 A2 : Option Addr) (c1 c2 : Nat), e = .returned (.tuple #[rdV 1 r.last (.slice A1 r.words.length c1) (.slice A2 r.roots.length c2), .int .i64 0]) ∧
   Reads w' w'.heap.size 1 A1 r.words.length (u32s r.words) ∧ Reads w' w'.heap.size 1 A2 r.roots.length (u32s r.roots) ∧ ∀ a, A1 = some a ∨ A2 = some a → w.heap.size ≤ a.block
theorem OldP.err {bs : List Nat} {E : Nat} {w w' : World} (hb : Below w.heap.size w w') (h : oldM bs = .error E) : OldP bs w (.returned (.tuple #[.agg #[.int .i64 0, .int .i64 0, .int .u32 0, .slice none 0 0, .slice none 0 0], .int .i64 (E : Nat)])) w' :=
 ⟨hb, by rw [h]; rfl⟩
theorem below_drwN {B : Nat} {w w' : World} (h : Below B w w') (k : Nat) : Below B w (w'.drewN k) := ⟨h.os, h.tape, h.output, h.size, h.block⟩
theorem word4_lt {bs : List Nat} (h8 : ∀ x ∈ bs, x < 256) (i : Nat) : word4 bs i < 4294967296 := by
 unfold word4
 have h0 := getD_lt bs h8 i
 have h1 := getD_lt bs h8 (i + 1)
 have h2 := getD_lt bs h8 (i + 2)
 have h3 := getD_lt bs h8 (i + 3)
 omega
structure OldA (w0 W : World) (A : Option Addr) (n c : Nat) (bs : List Nat) : Prop where
 inb : Blk W w0.heap.size 22 #[.slice A n c]
 rd : Reads W w0.heap.size 1 A n (u8c bs)
 res : Blk W (w0.heap.size + 1) 47 #[.int .i64 0, .int .i64 0, .int .u32 0, .slice none 0 0, .slice none 0 0]
 fr : Below w0.heap.size w0 W
theorem OldA.drew {w0 W : World} {A : Option Addr} {n c : Nat} {bs : List Nat} (S : OldA w0 W A n c bs) (k : Nat) : OldA w0 (W.drewN k) A n c bs :=
 ⟨S.inb, S.rd, S.res, below_drwN S.fr k⟩
theorem OldA.same {w0 wr w' : World} {A : Option Addr} {n c : Nat} {bs : List Nat} (S : OldA w0 wr A n c bs) (hos : w'.os = wr.os) (ht : w'.tape = wr.tape) (ho : w'.output = wr.output) (hsz : wr.heap.size ≤ w'.heap.size)
 (hk : ∀ k, k < w0.heap.size + 2 → w'.heap[k]? = wr.heap[k]?) : OldA w0 w' A n c bs :=
 ⟨S.inb.same (hk _ (by omega)), S.rd.keep (fun q hq => World.cell?_of_block (hk q.block (by omega))), S.res.same (hk _ (by omega)), ⟨hos.trans S.fr.os, ht.trans S.fr.tape, ho.trans S.fr.output, Nat.le_trans S.fr.size hsz, fun k hk' => (hk k (by omega)).trans (S.fr.block k hk')⟩⟩
structure OldSt (w0 wr : World) (A : Option Addr) (n c : Nat) (bs : List Nat) (b5 last : Nat) (vw : Value) (ws : List Nat) (vr : Value) (rs : List Nat) : Prop where
 a : OldA w0 wr A n c bs
 box : Blk wr b5 47 #[.int .i64 1, .int .i64 0, .int .u32 last, vw, vr]
 wo : wr.ownsRow (b5 + 1) 32 1 vw ws.length (u32s ws)
 ro : wr.ownsRow (b5 + 1) 72 1 vr rs.length (u32s rs)
 top : b5 + 1 ≤ wr.heap.size
 h5 : w0.heap.size + 2 ≤ b5
section
variable {w0 wr w' : World} {A : Option Addr} {n c b5 last : Nat} {bs ws rs : List Nat} {vw vr v' : Value}
theorem OldSt.drew (S : OldSt w0 wr A n c bs b5 last vw ws vr rs) (k : Nat) : OldSt w0 (wr.drewN k) A n c bs b5 last vw ws vr rs :=
 ⟨S.a.drew k, S.box, S.wo, S.ro, S.top, S.h5⟩
theorem OldSt.below (S : OldSt w0 wr A n c bs b5 last vw ws vr rs) (h : Below wr.heap.size wr w') : OldSt w0 w' A n c bs b5 last vw ws vr rs :=
 ⟨S.a.same h.os h.tape h.output h.size (fun k hk => h.block k (by have := S.top; have := S.h5; omega)), S.box.below h S.box.lt, own_sameI S.wo (fun k hk => h.block k (S.wo.lt k hk).2), own_sameI S.ro (fun k hk => h.block k (S.ro.lt k hk).2), Nat.le_trans S.top h.size, S.h5⟩
theorem OldSt.appW {ys : List Nat} {m : Nat} (S : OldSt w0 wr A n c bs b5 last vw ws vr rs) (hm : ys.length = m) (ho : w'.ownsRow (b5 + 1) 32 1 v' (ws.length + m) (u32s ws ++ u32s ys)) (hg : wr.grownBy w' vw.ownBlock) :
 OldSt w0 (w'.setCell ⟨b5, 3, none⟩ v') A n c bs b5 last v' (ws ++ ys) vr rs := by
 have hs : ∀ k, k < wr.heap.size → vw.ownBlock ≠ some k → w'.heap[k]? = wr.heap[k]? := fun k h1 h2 => hg.block k h1 (fun e => h2 (by first | exact e | exact e.symm))
 have htop := S.top
 have h5 := S.h5
 have hB : ∀ k, k < b5 + 1 → w'.heap[k]? = wr.heap[k]? := fun k h1 => hs k (by omega) (fun e => by have := (S.wo.lt k e).1; omega)
 have hfar : ∀ k, k ≠ b5 → (w'.setCell ⟨b5, 3, none⟩ v').heap[k]? = w'.heap[k]? := fun k h => Below.heap_setCell w' ⟨b5, 3, none⟩ v' k h
 have hsz : (w'.setCell ⟨b5, 3, none⟩ v').heap.size = w'.heap.size := by simp [World.setCell]
 have hgs := hg.size
 refine ⟨S.a.same hg.os hg.tape hg.output (by rw [hsz]; exact hg.size) (fun k h1 => (hfar k (by omega)).trans (hB k (by omega))), (S.box.same (hB _ (by omega))).set_ 3 v', ?_, ?_, by rw [hsz]; omega, h5⟩
 ·have h1 := own_sameI (w' := w'.setCell ⟨b5, 3, none⟩ v') ho (fun k e => hfar k (by have := (ho.lt k e).1; omega))
  rw [List.length_append, hm, show u32s (ws ++ ys) = u32s ws ++ u32s ys by simp [u32s]]
  exact h1
 ·exact own_sameI S.ro (fun k e => (hfar k (by have := (S.ro.lt k e).1; omega)).trans (hs k (S.ro.lt k e).2 (own_typ2 S.ro S.wo (by decide) e)))
theorem OldSt.appR {ys : List Nat} {m : Nat} (S : OldSt w0 wr A n c bs b5 last vw ws vr rs) (hm : ys.length = m) (ho : w'.ownsRow (b5 + 1) 72 1 v' (rs.length + m) (u32s rs ++ u32s ys)) (hg : wr.grownBy w' vr.ownBlock) :
 OldSt w0 (w'.setCell ⟨b5, 4, none⟩ v') A n c bs b5 last vw ws v' (rs ++ ys) := by
 have hs : ∀ k, k < wr.heap.size → vr.ownBlock ≠ some k → w'.heap[k]? = wr.heap[k]? := fun k h1 h2 => hg.block k h1 (fun e => h2 (by first | exact e | exact e.symm))
 have htop := S.top
 have h5 := S.h5
 have hB : ∀ k, k < b5 + 1 → w'.heap[k]? = wr.heap[k]? := fun k h1 => hs k (by omega) (fun e => by have := (S.ro.lt k e).1; omega)
 have hfar : ∀ k, k ≠ b5 → (w'.setCell ⟨b5, 4, none⟩ v').heap[k]? = w'.heap[k]? := fun k h => Below.heap_setCell w' ⟨b5, 4, none⟩ v' k h
 have hsz : (w'.setCell ⟨b5, 4, none⟩ v').heap.size = w'.heap.size := by simp [World.setCell]
 have hgs := hg.size
 refine ⟨S.a.same hg.os hg.tape hg.output (by rw [hsz]; exact hg.size) (fun k h1 => (hfar k (by omega)).trans (hB k (by omega))), (S.box.same (hB _ (by omega))).set_ 4 v', ?_, ?_, by rw [hsz]; omega, h5⟩
 ·exact own_sameI S.wo (fun k e => (hfar k (by have := (S.wo.lt k e).1; omega)).trans (hs k (S.wo.lt k e).2 (own_typ2 S.wo S.ro (by decide) e)))
 ·have h1 := own_sameI (w' := w'.setCell ⟨b5, 4, none⟩ v') ho (fun k e => hfar k (by have := (ho.lt k e).1; omega))
  rw [List.length_append, hm, show u32s (rs ++ ys) = u32s rs ++ u32s ys by simp [u32s]]
  exact h1
theorem OldSt.room (S : OldSt w0 wr A n c bs b5 last vw ws vr rs) (hg : wr.grownBy w' vw.ownBlock) : Blk w' b5 47 #[.int .i64 1, .int .i64 0, .int .u32 last, vw, vr] :=
 S.box.same (hg.block b5 S.box.lt (fun e => own_blkI S.wo S.box (by decide) (by first | exact e | exact e.symm)))
theorem OldSt.roomR (S : OldSt w0 wr A n c bs b5 last vw ws vr rs) (hg : wr.grownBy w' vr.ownBlock) : Blk w' b5 47 #[.int .i64 1, .int .i64 0, .int .u32 last, vw, vr] :=
 S.box.same (hg.block b5 S.box.lt (fun e => own_blkI S.ro S.box (by decide) (by first | exact e | exact e.symm)))
end
theorem OldP.ok {bs : List Nat} {r : Rd} {A1 A2 : Option Addr} {c1 c2 : Nat} {w w' : World} (hb : Below w.heap.size w w') (h : oldM bs = .ok r)
 (h1 : Reads w' w'.heap.size 1 A1 r.words.length (u32s r.words)) (h2 : Reads w' w'.heap.size 1 A2 r.roots.length (u32s r.roots)) (h3 : ∀ a, A1 = some a ∨ A2 = some a → w.heap.size ≤ a.block) :
 OldP bs w (.returned (.tuple #[.agg #[.int .i64 1, .int .i64 0, .int .u32 r.last, .slice A1 r.words.length c1, .slice A2 r.roots.length c2], .int .i64 0])) w' :=
 ⟨hb, by rw [h]; exact ⟨A1, A2, c1, c2, rfl, h1, h2, h3⟩⟩
set_option maxRecDepth 100000 in
set_option maxHeartbeats 8000000 in
theorem parseOld_any {w : World} {A : Option Addr} {n c : Nat} {bs : List Nat} (hr : Reads w w.heap.size 1 A n (u8c bs)) (hc : n ≤ c) (hn : n ≤ 9000000) (h8 : ∀ x ∈ bs, x < 256) :
 Calls Tryz.prog 32 #[.slice A n c] w (OldP bs w) := by
 have hbl : bs.length = n := by have := hr.1; rw [u8c_len] at this; omega
 have hmf : ∀ (fn : Fn) (first cap : Array Value) (w : World), (Instr.makeFunc fn first cap).run Tryz.prog w = .ok (.func fn first cap) w := fun _ _ _ _ => rfl
 have hb1 : Below w.heap.size w (w.alloc (.cells #[.slice A n c] 22)) := (Below.refl _ _).alloc (Nat.le_refl _) _
 have hb2 := hb1.alloc (by simp) (.cells #[.int .i64 0, .int .i64 0, .int .u32 0, .slice none 0 0, .slice none 0 0] 47)
 have hbk := (Below.refl (w.alloc (.cells #[.slice A n c] 22)).heap.size (w.alloc (.cells #[.slice A n c] 22))).alloc (Nat.le_refl _) (.cells #[.int .i64 0, .int .i64 0, .int .u32 0, .slice none 0 0, .slice none 0 0] 47)
 have b1 := (Blk.new w 22 #[.slice A n c]).below hbk (by simp)
 have b2 := Blk.new (w.alloc (.cells #[.slice A n c] 22)) 47 #[.int .i64 0, .int .i64 0, .int .u32 0, .slice none 0 0, .slice none 0 0]
 rw [World.size_alloc] at b2
 have HA := Lib.hid (show OldA w _ A n c bs from ⟨b1, hr.below hb2, b2, hb2⟩)
 have HM := Lib.hid (show oldM bs = if n < 273 ∨ n ≠ 273 + 4 * word4 bs 9 then .error 143 else if sumN (bs.take (n - 4)) ≠ word4 bs (n - 4) then .error 144 else .ok ⟨1, (List.range (word4 bs 9)).map (fun i => word4 bs (13 + 4 * i)), (List.range 64).map (fun i => word4 bs (13 + 4 * word4 bs 9 + 4 * i)), word4 bs 5, false⟩ from by unfold oldM; rw [hbl])
 have hm9 := word4_lt h8 9
 have HWD := Lib.hid (fun (W : World) (S : OldA w W A n c bs) (i : Nat) (hi : i + 3 < n) => pword_any S.inb S.rd hi hn h8)
 have HW4 := Lib.hid (word4_lt h8)
 have H8 := Lib.hid h8
 have HBL := Lib.hid hbl
 clear hb1 hb2 hbk b1 b2 hr h8 hbl
 go_enter Tryz.func32, Tryz.ntmps32
 go_upto_region 2 with fail
 generalize (w.alloc (.cells #[.slice A n c] 22)).alloc (.cells #[.int .i64 0, .int .i64 0, .int .u32 0, .slice none 0 0, .slice none 0 0] 47) = W1 at *
 have d1 : W1.cell? ⟨w.heap.size, 0, none⟩ = some (.slice A n c) := HA.out.inb.cell 0
 by_cases h273 : n < 273
 ·have hd : decide ((n : Int) < 273) = true := decide_eq_true (by omega)
  have HNM := Lib.hid (show oldM bs = .error 143 from by rw [HM.out, if_pos (.inl h273)])
  clear HM hm9
  go_quiet (fail)
  have HZ := Lib.hid (HA.out.drew nq).res
  have HF := Lib.hid (HA.out.drew nq).fr
  generalize W1.drewN nq = W2 at *
  clear d1 HA
  have z0 := HZ.out.frozen 0
  have z1 := HZ.out.frozen 1
  have z2 := HZ.out.frozen 2
  have z3 := HZ.out.frozen 3
  have z4 := HZ.out.frozen 4
  have d0 := HZ.out.cell 0
  have d1 := HZ.out.cell 1
  have d2 := HZ.out.cell 2
  have d3 := HZ.out.cell 3
  have d4 := HZ.out.cell 4
  have HZ5 := Lib.hid (HZ.out.setAll5 (.int .i64 0) (.int .i64 0) (.int .u32 0) (.slice none 0 0) (.slice none 0 0))
  have HFB := Lib.hid (below5 HF.out (g := w.heap.size + 1) (by omega) (.int .i64 0) (.int .i64 0) (.int .u32 0) (.slice none 0 0) (.slice none 0 0))
  go_wp2_with fail
  generalize (((((W2.setCell ⟨w.heap.size + 1, 0, none⟩ (.int .i64 0)).setCell ⟨w.heap.size + 1, 1, none⟩ (.int .i64 0)).setCell ⟨w.heap.size + 1, 2, none⟩ (.int .u32 0)).setCell ⟨w.heap.size + 1, 3, none⟩ (.slice none 0 0)).setCell ⟨w.heap.size + 1, 4, none⟩ (.slice none 0 0)) = WF at *
  clear z0 d0 z1 d1 z2 d2 z3 d3 z4 d4
  have f0 := HZ5.out.cell 0
  have f1 := HZ5.out.cell 1
  have f2 := HZ5.out.cell 2
  have f3 := HZ5.out.cell 3
  have f4 := HZ5.out.cell 4
  refine bodyPost_ret (v := .tuple #[.agg #[.int .i64 0, .int .i64 0, .int .u32 0, .slice none 0 0, .slice none 0 0], .int .i64 143]) (by simp [results, Tryz.results32, go_sem, f0, f1, f2, f3, f4]) rfl ?_
  exact OldP.err HFB.out HNM.out
 ·have hd : decide ((n : Int) < 273) = false := decide_eq_false (by omega)
  have HC9 := Lib.hid (fun q => HWD.out (W1.drewN q) (HA.out.drew q) 9 (by omega))
  generalize hwm : word4 bs 9 = m at *
  have HWM := Lib.hid hwm
  clear hwm
  by_cases hnm : n = 273 + 4 * m
  ·have hne : ((n : Int) != 273 + 4 * (m : Int)) = false := by simp; omega
   have HNM := Lib.hid hnm
   clear hnm
   go_quiet ((go_at_call 66; exact Calls.quiet_of (HC9.out _)))
   go_upto_region 4 with fail
   have HA2 := Lib.hid (HA.out.drew nq)
   generalize W1.drewN nq = W2 at *
   clear d1 HA HC9
   have d1 : W2.cell? ⟨w.heap.size, 0, none⟩ = some (.slice A n c) := HA2.out.inb.cell 0
   have e4 : ((n - 4 : Nat) : Int) = (n : Int) - 4 := by omega
   have HSL : ∀ w : World, (Instr.slice 22 (.slice A n c) none (some (.int .i64 ((n : Int) - 4))) none).run Tryz.prog w = .ok (.slice (tailA A c 0) (n - 4) c) w := fun w => by
    have h := slice_head w A n c (n - 4) (by omega)
    rw [e4] at h
    exact h
   have h8t : ∀ x ∈ bs.take (n - 4), x < 256 := fun x hx => H8.out x (List.mem_of_mem_take hx)
   obtain ⟨hs1, hs2⟩ := sumN_eq h8t
   have HSM := Lib.hid (fun q => (sum_any (tailA A c 0) (n - 4) c w.heap.size (bs.take (n - 4)) (W2.drewN q) (by omega) (reads_head (HA2.out.drew q).rd (by omega)) h8t).mono fun e w' ⟨h1, h2⟩ => show e = Ending.returned (.int .u32 ((sumN (bs.take (n - 4)) : Nat) : Int)) ∧ w' = W2.drewN q from ⟨by rw [h1, hs1], h2.symm⟩)
   have HCL := Lib.hid (fun q => HWD.out (W2.drewN q) (HA2.out.drew q) (n - 4) (by omega))
   rw [e4] at HCL
   have hw4 := HW4.out (n - 4)
   clear h8t hs1 e4
   generalize hsu : sumN (bs.take (n - 4)) = su at *
   generalize hlw : word4 bs (n - 4) = lw at *
   clear hsu hlw
   by_cases hsl : su = lw
   ·have hne2 : ((su : Int) != (lw : Int)) = false := by simp; omega
    have HOK := Lib.hid (HM.out.trans (by rw [if_neg (by have := HNM.out; omega), if_neg (by simpa using hsl)]))
    have HSLW := Lib.hid hsl
    clear hsl HM
    go_quiet (first | (go_at_call 47; exact Calls.quiet_of_same (HSM.out _)) | (go_at_call 66; exact Calls.quiet_of (HCL.out _)))
    go_upto_region 6 with fail
    have HA3 := Lib.hid (HA2.out.drew nq)
    clear d1 HSM HCL HA2
    generalize W2.drewN nq = W3 at *
    have HC5 := Lib.hid (HWD.out W3 HA3.out 5 (by omega))
    generalize word4 bs 5 = la at *
    go_wp2_with fail
    refine HC5.out.mono ?_
    rintro e w4 ⟨rfl, mq, rfl⟩
    have HA4 := Lib.hid (HA3.out.drew mq)
    clear HC5 HA3
    generalize W3.drewN mq = W4 at *
    have hb5 : Below W4.heap.size W4 (W4.alloc (.cells #[.int .i64 1, .int .i64 0, .int .u32 (la : Nat), .slice none 0 0, .slice none 0 0] 47)) := (Below.refl _ _).alloc (Nat.le_refl _) _
    have HST := Lib.hid (show OldSt w (W4.alloc (.cells #[.int .i64 1, .int .i64 0, .int .u32 (la : Nat), .slice none 0 0, .slice none 0 0] 47)) A n c bs W4.heap.size la (.slice none 0 0) [] (.slice none 0 0) [] from
     ⟨HA4.out.same hb5.os hb5.tape hb5.output hb5.size (fun k hk => hb5.block k (by have := HA4.out.res.lt; omega)), Blk.new W4 _ _, ⟨rfl, .inl ⟨rfl, rfl⟩⟩, ⟨rfl, .inl ⟨rfl, rfl⟩⟩, by simp, by have := HA4.out.res.lt; omega⟩)
    have HA5 := Lib.hid HST.out.a
    have hW4 : w.heap.size + 2 ≤ W4.heap.size := HST.out.h5
    clear hb5 HA4
    go_upto_region 7 with fail
    generalize W4.alloc (.cells #[.int .i64 1, .int .i64 0, .int .u32 (la : Int), .slice none 0 0, .slice none 0 0] 47) = W5 at *
    generalize W4.heap.size = b5 at *
    have HC9 := Lib.hid (by have := HWD.out W5 HA5.out 9 (by omega); rw [HWM.out] at this; exact this)
    go_wp2_with fail
    refine HC9.out.mono ?_
    rintro e w6 ⟨rfl, mq2, rfl⟩
    have HST6 := Lib.hid (HST.out.drew mq2)
    clear HC9 HA5 HST
    have HST := Lib.hid HST6.out
    clear HST6
    generalize W5.drewN mq2 = W6 at *
    obtain ⟨i0, hi0, hz0, hz1, hz2⟩ := info_parts info_u32
    go_wp2_with fail
    go_loopw [45] (fun i wr => ∃ (k : Nat) (vw : Value), i = .int .i64 k ∧ k ≤ m ∧ OldSt w wr A n c bs b5 la vw ((List.range k).map (fun i => word4 bs (13 + 4 * i))) (.slice none 0 0) []) (fun i _ => m - (intOf i).toNat)
    case atStart => exact ⟨0, _, rfl, Nat.zero_le _, HST.out⟩
    case round =>
     clear HST
     obtain ⟨k, vw, rfl, hk, S⟩ := hrel
     have HS := Lib.hid S
     by_cases hkn : k < m
     ·have hd : decide ((k : Int) < (m : Int)) = true := by simp; omega
      have hkb : k ≤ 9000000 := by have := HNM.out; omega
      have hw1 : IntKind.i64.wrap (4 * (k : Int)) = 4 * (k : Int) := IntWalk.i64_in _ (by omega)
      have hw2 : IntKind.i64.wrap (13 + 4 * (k : Int)) = 13 + 4 * (k : Int) := IntWalk.i64_in _ (by omega)
      have hkni : (k : Int) < (m : Int) := by omega
      have hki : 13 + 4 * k + 0 + 3 < n := by have := HNM.out; omega
      have hbd : ∀ q, OldA w (wr.drewN q) A n c bs := fun q => S.a.drew q
      have HCW := Lib.hid (fun (W : World) (S : OldA w W A n c bs) => HWD.out W S (13 + 4 * k) (by omega))
      have e4 : ((13 + 4 * k : Nat) : Int) = 13 + 4 * (k : Int) := by push_cast; rfl
      rw [e4] at HCW
      have HLS := Lib.hid (show (List.range (k + 1)).map (fun i => word4 bs (13 + 4 * i)) = (List.range k).map (fun i => word4 bs (13 + 4 * i)) ++ [word4 bs (13 + 4 * k)] from by rw [List.range_succ, List.map_append]; rfl)
      have hpl : ((List.range k).map (fun i => word4 bs (13 + 4 * i))).length ≤ 9000000 := by rw [List.length_map, List.length_range]; have := HNM.out; omega
      have hx32 := HW4.out (13 + 4 * k)
      clear S e4 hbd hki
      generalize (List.range k).map (fun i => word4 bs (13 + 4 * i)) = pk at *
      generalize word4 bs (13 + 4 * k) = x at *
      go_upto_region 11 with fail
      refine wp_region_U 10 (fun w' => w'.cell? ⟨b5, 3, none⟩ = some vw ∧ True) (by kernel_rfl) ?_
      have HSq := Lib.hid (HS.out.drew 1)
      rw [show wr.drewN 1 = wr.drew from rfl] at HSq
      clear HS
      generalize wr.drew = wq at *
      have hS : wq.cell? ⟨b5, 3, none⟩ = some vw ∧ True := ⟨HSq.out.box.cell 3, trivial⟩
      refine U_read 0 (v := (.pointer (some ⟨b5, 3, none⟩))) rfl (by kernel_rfl) (fun _ _ _ h => h) hS (by rfl) (fun w' hw' => by obtain ⟨h0, h1⟩ := hw'; go_simp) ?_
      try simp only [Act.put, List.setIfInBounds_toArray, List.set_cons_zero, List.set_cons_succ]
      refine U_read 1 (v := vw) rfl (by kernel_rfl) (fun _ _ _ h => h) hS (by rfl) (fun w' hw' => by obtain ⟨h0, h1⟩ := hw'; go_simp) ?_
      try simp only [Act.put, List.setIfInBounds_toArray, List.set_cons_zero, List.set_cons_succ]
      refine U_read 2 (v := (.func (.func 66) #[] #[.pointer (some ⟨w.heap.size, 0, none⟩)])) rfl (by kernel_rfl) (fun _ _ _ h => h) hS (by rfl) (fun w' hw' => by obtain ⟨h0, h1⟩ := hw'; go_simp) ?_
      try simp only [Act.put, List.setIfInBounds_toArray, List.set_cons_zero, List.set_cons_succ]
      refine U_read 3 (v := (.int .i64 (k : Int))) rfl (by kernel_rfl) (fun _ _ _ h => h) hS (by rfl) (fun w' hw' => by obtain ⟨h0, h1⟩ := hw'; go_simp) ?_
      try simp only [Act.put, List.setIfInBounds_toArray, List.set_cons_zero, List.set_cons_succ]
      refine U_read 4 (v := (.int .i64 (4 * (k : Int)))) rfl (by kernel_rfl) (fun _ _ _ h => h) hS (by rfl) (fun w' hw' => by obtain ⟨h0, h1⟩ := hw'; go_simp) ?_
      try simp only [Act.put, List.setIfInBounds_toArray, List.set_cons_zero, List.set_cons_succ]
      refine U_read 5 (v := (.int .i64 (13 + 4 * (k : Int)))) rfl (by kernel_rfl) (fun _ _ _ h => h) hS (by rfl) (fun w' hw' => by obtain ⟨h0, h1⟩ := hw'; go_simp) ?_
      try simp only [Act.put, List.setIfInBounds_toArray, List.set_cons_zero, List.set_cons_succ]
      refine U_one 6 (by kernel_rfl) rfl rfl (fun K hK => ?_)
      go_simp
      refine (HCW.out _ HSq.out.a).mono ?_
      rintro e w13 ⟨rfl, mq, rfl⟩
      have HS14 := Lib.hid (HSq.out.drew mq)
      generalize wq.drewN mq = w13 at *
      have hS14 : w13.cell? ⟨b5, 3, none⟩ = some vw ∧ True := ⟨HS14.out.box.cell 3, trivial⟩
      clear HSq
      refine hK _ _ (fun _ => hS14) ?_
      clear hK K
      try simp only [Act.put, List.setIfInBounds_toArray, List.set_cons_zero, List.set_cons_succ]
      refine U_one 7 (by kernel_rfl) rfl rfl (fun K hK => ?_)
      go_simp
      have HSA := Lib.hid (HS14.out.below ((Below.refl _ _).alloc (Nat.le_refl _) (.cells #[.int .u32 (x : Nat)] 32)))
      have hSA : (w13.alloc (.cells #[.int .u32 (x : Nat)] 32)).cell? ⟨b5, 3, none⟩ = some vw ∧ True := ⟨HSA.out.box.cell 3, trivial⟩
      refine hK _ _ (fun _ => hSA) ?_
      clear hK K
      try simp only [Act.put, List.setIfInBounds_toArray, List.set_cons_zero, List.set_cons_succ]
      refine U_one 8 (by kernel_rfl) rfl rfl (fun K hK => ?_)
      refine wp_append_any _ (.tmp 49) (.tmp 55) _ rfl (b5 + 1) 32 i0 _ 1 4 Tryz.underlying44 hi0 hz0 hz1 hz2 rfl (by omega) vw pk.length (u32s pk) rfl HSA.out.wo (w13.heap.size + 1) (some ⟨w13.heap.size, 0, none⟩) 1 1 (u32s [x]) rfl ⟨rfl, fun _ => ⟨_, rfl, by simp, cell_one_new _ _ _⟩⟩ (one_u32s _) (by simp only [maxLen]; omega) (by omega) HSA.out.top ?_
      intro v15 w15 hown15 hg15 hat15
      obtain ⟨g15, c15, rfl, -, -, -⟩ := Row.of_any hown15 (by omega)
      have HS15 := Lib.hid (HSA.out.appW (ys := [x]) rfl hown15 hg15)
      have hfz := (HSA.out.room hg15).frozen 3
      have hcu := (HSA.out.room hg15).cell 3
      have hS15 : w15.cell? ⟨b5, 3, none⟩ = some vw ∧ True := ⟨hcu, trivial⟩
      clear hown15 hg15 hat15 HSA HS14
      refine hK _ _ (fun _ => hS15) ?_
      clear hK K
      try simp only [Act.put, List.setIfInBounds_toArray, List.set_cons_zero, List.set_cons_succ]
      refine U_one 9 (by kernel_rfl) rfl rfl (fun K hK => ?_)
      go_simp
      refine hK _ _ (fun _ => hS15) ?_
      clear hK K
      try simp only [Act.put, List.setIfInBounds_toArray, List.set_cons_zero, List.set_cons_succ]
      refine U_one 10 (by kernel_rfl) rfl rfl (fun K hK => ?_)
      go_simp
      refine hK _ _ (fun h => absurd h (by decide)) ?_
      clear hK K
      try simp only [Act.put, List.setIfInBounds_toArray, List.set_cons_zero, List.set_cons_succ]
      refine U_done (by kernel_rfl) ?_ _
      simp only [Calm, Exit.then]
      clear hS hS14 hSA hS15 hcu hfz
      go_wp2_with fail
      go_roundw
      case rel => exact ⟨k + 1, _, by go_num, by omega, by rw [HLS.out]; exact HS15.out⟩
      case measure => simp [intOf]; omega
     ·obtain rfl : m = k := by omega
      have hd : decide ((m : Int) < m) = false := by simp
      have HST := Lib.hid S
      clear S HS hk hkn i0 hi0 hz0 hz1 hz2
      obtain ⟨i0, hi0, hz0, hz1, hz2⟩ := info_parts info_oop
      go_wp2_with fail
      go_loopw [59] (fun i wr => ∃ (k : Nat) (vr : Value), i = .int .i64 k ∧ k ≤ 64 ∧ OldSt w wr A n c bs b5 la vw ((List.range m).map (fun i => word4 bs (13 + 4 * i))) vr ((List.range k).map (fun i => word4 bs (13 + 4 * m + 4 * i)))) (fun i _ => 64 - (intOf i).toNat)
      case atStart => exact ⟨0, _, rfl, Nat.zero_le _, HST.out⟩
      case round =>
       clear HST
       obtain ⟨k, vr, rfl, hk, S⟩ := hrel
       have HS := Lib.hid S
       by_cases hkn : k < 64
       ·have hd : decide ((k : Int) < 64) = true := by simp; omega
        have hmb : m ≤ 9000000 := by have := HNM.out; omega
        have hw1 : IntKind.i64.wrap (4 * (k : Int)) = 4 * (k : Int) := IntWalk.i64_in _ (by omega)
        have hw2 : IntKind.i64.wrap (4 * (m : Int)) = 4 * (m : Int) := IntWalk.i64_in _ (by omega)
        have hw3 : IntKind.i64.wrap (13 + 4 * (m : Int)) = 13 + 4 * (m : Int) := IntWalk.i64_in _ (by omega)
        have hw4' : IntKind.i64.wrap (13 + 4 * (m : Int) + 4 * (k : Int)) = 13 + 4 * (m : Int) + 4 * (k : Int) := IntWalk.i64_in _ (by omega)
        have hkni : (k : Int) < 64 := by omega
        have hki : 13 + 4 * k + 4 * m + 3 < n := by have := HNM.out; omega
        have hbd : ∀ q, OldA w (wr.drewN q) A n c bs := fun q => S.a.drew q
        have HCW := Lib.hid (fun (W : World) (S : OldA w W A n c bs) => HWD.out W S (13 + 4 * m + 4 * k) (by omega))
        have e4 : ((13 + 4 * m + 4 * k : Nat) : Int) = 13 + 4 * (m : Int) + 4 * (k : Int) := by push_cast; rfl
        rw [e4] at HCW
        have HLS := Lib.hid (show (List.range (k + 1)).map (fun i => word4 bs (13 + 4 * m + 4 * i)) = (List.range k).map (fun i => word4 bs (13 + 4 * m + 4 * i)) ++ [word4 bs (13 + 4 * m + 4 * k)] from by rw [List.range_succ, List.map_append]; rfl)
        have hpl : ((List.range k).map (fun i => word4 bs (13 + 4 * m + 4 * i))).length ≤ 9000000 := by rw [List.length_map, List.length_range]; have := HNM.out; omega
        have hx32 := HW4.out (13 + 4 * m + 4 * k)
        clear S e4 hbd hki
        generalize (List.range k).map (fun i => word4 bs (13 + 4 * m + 4 * i)) = pk at *
        generalize word4 bs (13 + 4 * m + 4 * k) = x at *
        go_upto_region 16 with fail
        refine wp_region_U 13 (fun w' => w'.cell? ⟨b5, 4, none⟩ = some vr ∧ True) (by kernel_rfl) ?_
        have HSq := Lib.hid (HS.out.drew 1)
        rw [show wr.drewN 1 = wr.drew from rfl] at HSq
        clear HS
        generalize wr.drew = wq at *
        have hS : wq.cell? ⟨b5, 4, none⟩ = some vr ∧ True := ⟨HSq.out.box.cell 4, trivial⟩
        refine U_read 0 (v := (.pointer (some ⟨b5, 4, none⟩))) rfl (by kernel_rfl) (fun _ _ _ h => h) hS (by rfl) (fun w' hw' => by obtain ⟨h0, h1⟩ := hw'; go_simp) ?_
        try simp only [Act.put, List.setIfInBounds_toArray, List.set_cons_zero, List.set_cons_succ]
        refine U_read 1 (v := vr) rfl (by kernel_rfl) (fun _ _ _ h => h) hS (by rfl) (fun w' hw' => by obtain ⟨h0, h1⟩ := hw'; go_simp) ?_
        try simp only [Act.put, List.setIfInBounds_toArray, List.set_cons_zero, List.set_cons_succ]
        refine U_read 2 (v := (.func (.func 66) #[] #[.pointer (some ⟨w.heap.size, 0, none⟩)])) rfl (by kernel_rfl) (fun _ _ _ h => h) hS (by rfl) (fun w' hw' => by obtain ⟨h0, h1⟩ := hw'; go_simp) ?_
        try simp only [Act.put, List.setIfInBounds_toArray, List.set_cons_zero, List.set_cons_succ]
        refine U_read 3 (v := (.int .i64 (m : Int))) rfl (by kernel_rfl) (fun _ _ _ h => h) hS (by rfl) (fun w' hw' => by obtain ⟨h0, h1⟩ := hw'; go_simp) ?_
        try simp only [Act.put, List.setIfInBounds_toArray, List.set_cons_zero, List.set_cons_succ]
        refine U_read 4 (v := (.int .i64 (4 * (m : Int)))) rfl (by kernel_rfl) (fun _ _ _ h => h) hS (by rfl) (fun w' hw' => by obtain ⟨h0, h1⟩ := hw'; go_simp) ?_
        try simp only [Act.put, List.setIfInBounds_toArray, List.set_cons_zero, List.set_cons_succ]
        refine U_read 5 (v := (.int .i64 (13 + 4 * (m : Int)))) rfl (by kernel_rfl) (fun _ _ _ h => h) hS (by rfl) (fun w' hw' => by obtain ⟨h0, h1⟩ := hw'; go_simp) ?_
        try simp only [Act.put, List.setIfInBounds_toArray, List.set_cons_zero, List.set_cons_succ]
        refine U_read 6 (v := (.int .i64 (k : Int))) rfl (by kernel_rfl) (fun _ _ _ h => h) hS (by rfl) (fun w' hw' => by obtain ⟨h0, h1⟩ := hw'; go_simp) ?_
        try simp only [Act.put, List.setIfInBounds_toArray, List.set_cons_zero, List.set_cons_succ]
        refine U_read 7 (v := (.int .i64 (4 * (k : Int)))) rfl (by kernel_rfl) (fun _ _ _ h => h) hS (by rfl) (fun w' hw' => by obtain ⟨h0, h1⟩ := hw'; go_simp) ?_
        try simp only [Act.put, List.setIfInBounds_toArray, List.set_cons_zero, List.set_cons_succ]
        refine U_read 8 (v := (.int .i64 (13 + 4 * (m : Int) + 4 * (k : Int)))) rfl (by kernel_rfl) (fun _ _ _ h => h) hS (by rfl) (fun w' hw' => by obtain ⟨h0, h1⟩ := hw'; go_simp) ?_
        try simp only [Act.put, List.setIfInBounds_toArray, List.set_cons_zero, List.set_cons_succ]
        refine U_one 9 (by kernel_rfl) rfl rfl (fun K hK => ?_)
        go_simp
        refine (HCW.out _ HSq.out.a).mono ?_
        rintro e w13 ⟨rfl, mq, rfl⟩
        have HS14 := Lib.hid (HSq.out.drew mq)
        generalize wq.drewN mq = w13 at *
        have hS14 : w13.cell? ⟨b5, 4, none⟩ = some vr ∧ True := ⟨HS14.out.box.cell 4, trivial⟩
        clear HSq
        refine hK _ _ (fun _ => hS14) ?_
        clear hK K
        try simp only [Act.put, List.setIfInBounds_toArray, List.set_cons_zero, List.set_cons_succ]
        refine U_one 10 (by kernel_rfl) rfl rfl (fun K hK => ?_)
        go_simp
        have HSA := Lib.hid (HS14.out.below ((Below.refl _ _).alloc (Nat.le_refl _) (.cells #[.int .u32 (x : Nat)] 72)))
        have hSA : (w13.alloc (.cells #[.int .u32 (x : Nat)] 72)).cell? ⟨b5, 4, none⟩ = some vr ∧ True := ⟨HSA.out.box.cell 4, trivial⟩
        refine hK _ _ (fun _ => hSA) ?_
        clear hK K
        try simp only [Act.put, List.setIfInBounds_toArray, List.set_cons_zero, List.set_cons_succ]
        refine U_one 11 (by kernel_rfl) rfl rfl (fun K hK => ?_)
        refine wp_append_any _ (.tmp 63) (.tmp 72) _ rfl (b5 + 1) 72 i0 _ 1 4 Tryz.underlying45 hi0 hz0 hz1 hz2 rfl (by omega) vr pk.length (u32s pk) rfl HSA.out.ro (w13.heap.size + 1) (some ⟨w13.heap.size, 0, none⟩) 1 1 (u32s [x]) rfl ⟨rfl, fun _ => ⟨_, rfl, by simp, cell_one_new _ _ _⟩⟩ (one_u32s _) (by simp only [maxLen]; omega) (by omega) HSA.out.top ?_
        intro v15 w15 hown15 hg15 hat15
        obtain ⟨g15, c15, rfl, -, -, -⟩ := Row.of_any hown15 (by omega)
        have HS15 := Lib.hid (HSA.out.appR (ys := [x]) rfl hown15 hg15)
        have hfz := (HSA.out.roomR hg15).frozen 4
        have hcu := (HSA.out.roomR hg15).cell 4
        have hS15 : w15.cell? ⟨b5, 4, none⟩ = some vr ∧ True := ⟨hcu, trivial⟩
        clear hown15 hg15 hat15 HSA HS14
        refine hK _ _ (fun _ => hS15) ?_
        clear hK K
        try simp only [Act.put, List.setIfInBounds_toArray, List.set_cons_zero, List.set_cons_succ]
        refine U_one 12 (by kernel_rfl) rfl rfl (fun K hK => ?_)
        go_simp
        refine hK _ _ (fun _ => hS15) ?_
        clear hK K
        try simp only [Act.put, List.setIfInBounds_toArray, List.set_cons_zero, List.set_cons_succ]
        refine U_one 13 (by kernel_rfl) rfl rfl (fun K hK => ?_)
        go_simp
        refine hK _ _ (fun h => absurd h (by decide)) ?_
        clear hK K
        try simp only [Act.put, List.setIfInBounds_toArray, List.set_cons_zero, List.set_cons_succ]
        refine U_done (by kernel_rfl) ?_ _
        simp only [Calm, Exit.then]
        clear hS hS14 hSA hS15 hcu hfz
        go_wp2_with fail
        go_roundw
        case rel => exact ⟨k + 1, _, by go_num, by omega, by rw [HLS.out]; exact HS15.out⟩
        case measure => simp [intOf]; omega
       ·obtain rfl : k = 64 := by omega
        have hd : decide ((64 : Int) < 64) = false := by decide
        have HSE := Lib.hid S
        have e0 := S.box.cell 0
        have e1 := S.box.cell 1
        have e2 := S.box.cell 2
        obtain ⟨AW, cW, hvw, hrW⟩ := own_sliceI S.wo
        obtain ⟨AR, cR, hvr, hrR⟩ := own_sliceI S.ro
        subst hvw hvr
        have e3 := S.box.cell 3
        have e4 := S.box.cell 4
        have HX1 := Lib.hid (reads5 (g := w.heap.size + 1) hrW (fun _ a ha e => by have := (HSE.out.wo.lt a.block (by rw [ha]; rfl)).1; have := HSE.out.h5; omega) (.int .i64 1) (.int .i64 0) (.int .u32 la) (.slice AW ((List.range m).map (fun i => word4 bs (13 + 4 * i))).length cW) (.slice AR ((List.range 64).map (fun i => word4 bs (13 + 4 * m + 4 * i))).length cR))
        have HX2 := Lib.hid (reads5 (g := w.heap.size + 1) hrR (fun _ a ha e => by have := (HSE.out.ro.lt a.block (by rw [ha]; rfl)).1; have := HSE.out.h5; omega) (.int .i64 1) (.int .i64 0) (.int .u32 la) (.slice AW ((List.range m).map (fun i => word4 bs (13 + 4 * i))).length cW) (.slice AR ((List.range 64).map (fun i => word4 bs (13 + 4 * m + 4 * i))).length cR))
        have HNW := Lib.hid (show ∀ a, AW = some a ∨ AR = some a → w.heap.size ≤ a.block from fun a ha => by
         have h5 := S.h5
         rcases ha with ha | ha
         ·have := (S.wo.lt a.block (by rw [ha]; rfl)).1; omega
         ·have := (S.ro.lt a.block (by rw [ha]; rfl)).1; omega)
        have HZ := Lib.hid S.a.res
        have HF := Lib.hid S.a.fr
        clear hrW hrR HSE S HS
        generalize (List.range m).map (fun i => word4 bs (13 + 4 * i)) = wsF at *
        generalize (List.range 64).map (fun i => word4 bs (13 + 4 * m + 4 * i)) = rsF at *
        have z0 := HZ.out.frozen 0
        have z1 := HZ.out.frozen 1
        have z2 := HZ.out.frozen 2
        have z3 := HZ.out.frozen 3
        have z4 := HZ.out.frozen 4
        have d0 := HZ.out.cell 0
        have d1 := HZ.out.cell 1
        have d2 := HZ.out.cell 2
        have d3 := HZ.out.cell 3
        have d4 := HZ.out.cell 4
        have HZ5 := Lib.hid (HZ.out.setAll5 (.int .i64 1) (.int .i64 0) (.int .u32 la) (.slice AW wsF.length cW) (.slice AR rsF.length cR))
        have HFB := Lib.hid (below5 HF.out (g := w.heap.size + 1) (by omega) (.int .i64 1) (.int .i64 0) (.int .u32 la) (.slice AW wsF.length cW) (.slice AR rsF.length cR))
        go_wp2_with fail
        generalize (((((wr.setCell ⟨w.heap.size + 1, 0, none⟩ (.int .i64 1)).setCell ⟨w.heap.size + 1, 1, none⟩ (.int .i64 0)).setCell ⟨w.heap.size + 1, 2, none⟩ (.int .u32 la)).setCell ⟨w.heap.size + 1, 3, none⟩ (.slice AW wsF.length cW)).setCell ⟨w.heap.size + 1, 4, none⟩ (.slice AR rsF.length cR)) = WF at *
        clear z0 d0 z1 d1 z2 d2 z3 d3 z4 d4
        have f0 := HZ5.out.cell 0
        have f1 := HZ5.out.cell 1
        have f2 := HZ5.out.cell 2
        have f3 := HZ5.out.cell 3
        have f4 := HZ5.out.cell 4
        refine bodyPost_ret (v := .tuple #[.agg #[.int .i64 1, .int .i64 0, .int .u32 la, .slice AW wsF.length cW, .slice AR rsF.length cR], .int .i64 0]) (by simp [results, Tryz.results32, go_sem, f0, f1, f2, f3, f4]) rfl ?_
        exact OldP.ok HFB.out HOK.out HX1.out HX2.out HNW.out
   ·have hne2 : ((su : Int) != (lw : Int)) = true := by simp; omega
    have hnei : ¬ ((su : Int) = (lw : Int)) := by omega
    have HNE := Lib.hid (show oldM bs = .error 144 from HM.out.trans (by rw [if_neg (by have := HNM.out; omega), if_pos hsl]))
    clear hsl HM
    go_quiet (first | (go_at_call 47; exact Calls.quiet_of_same (HSM.out _)) | (go_at_call 66; exact Calls.quiet_of (HCL.out _)))
    have HZ := Lib.hid (HA2.out.drew nq).res
    have HF := Lib.hid (HA2.out.drew nq).fr
    clear d1 HSM HCL
    generalize W2.drewN nq = W3 at *
    clear HA2
    have z0 := HZ.out.frozen 0
    have z1 := HZ.out.frozen 1
    have z2 := HZ.out.frozen 2
    have z3 := HZ.out.frozen 3
    have z4 := HZ.out.frozen 4
    have d0 := HZ.out.cell 0
    have d1 := HZ.out.cell 1
    have d2 := HZ.out.cell 2
    have d3 := HZ.out.cell 3
    have d4 := HZ.out.cell 4
    have HZ5 := Lib.hid (HZ.out.setAll5 (.int .i64 0) (.int .i64 0) (.int .u32 0) (.slice none 0 0) (.slice none 0 0))
    have HFB := Lib.hid (below5 HF.out (g := w.heap.size + 1) (by omega) (.int .i64 0) (.int .i64 0) (.int .u32 0) (.slice none 0 0) (.slice none 0 0))
    go_wp2_with fail
    generalize (((((W3.setCell ⟨w.heap.size + 1, 0, none⟩ (.int .i64 0)).setCell ⟨w.heap.size + 1, 1, none⟩ (.int .i64 0)).setCell ⟨w.heap.size + 1, 2, none⟩ (.int .u32 0)).setCell ⟨w.heap.size + 1, 3, none⟩ (.slice none 0 0)).setCell ⟨w.heap.size + 1, 4, none⟩ (.slice none 0 0)) = WF at *
    clear z0 d0 z1 d1 z2 d2 z3 d3 z4 d4
    have f0 := HZ5.out.cell 0
    have f1 := HZ5.out.cell 1
    have f2 := HZ5.out.cell 2
    have f3 := HZ5.out.cell 3
    have f4 := HZ5.out.cell 4
    refine bodyPost_ret (v := .tuple #[.agg #[.int .i64 0, .int .i64 0, .int .u32 0, .slice none 0 0, .slice none 0 0], .int .i64 144]) (by simp [results, Tryz.results32, go_sem, f0, f1, f2, f3, f4]) rfl ?_
    exact OldP.err HFB.out HNE.out
  ·have hne : ((n : Int) != 273 + 4 * (m : Int)) = true := by simp; omega
   have HNM := Lib.hid (show oldM bs = .error 143 from by rw [HM.out, if_pos (.inr hnm)])
   have hnm2 : ¬ ((n : Int) = 273 + 4 * (m : Int)) := by omega
   clear HM hnm
   go_quiet ((go_at_call 66; exact Calls.quiet_of (HC9.out _)))
   have HZ := Lib.hid (HA.out.drew nq).res
   have HF := Lib.hid (HA.out.drew nq).fr
   generalize W1.drewN nq = W2 at *
   clear d1 HA
   have z0 := HZ.out.frozen 0
   have z1 := HZ.out.frozen 1
   have z2 := HZ.out.frozen 2
   have z3 := HZ.out.frozen 3
   have z4 := HZ.out.frozen 4
   have d0 := HZ.out.cell 0
   have d1 := HZ.out.cell 1
   have d2 := HZ.out.cell 2
   have d3 := HZ.out.cell 3
   have d4 := HZ.out.cell 4
   have HZ5 := Lib.hid (HZ.out.setAll5 (.int .i64 0) (.int .i64 0) (.int .u32 0) (.slice none 0 0) (.slice none 0 0))
   have HFB := Lib.hid (below5 HF.out (g := w.heap.size + 1) (by omega) (.int .i64 0) (.int .i64 0) (.int .u32 0) (.slice none 0 0) (.slice none 0 0))
   go_wp2_with fail
   generalize (((((W2.setCell ⟨w.heap.size + 1, 0, none⟩ (.int .i64 0)).setCell ⟨w.heap.size + 1, 1, none⟩ (.int .i64 0)).setCell ⟨w.heap.size + 1, 2, none⟩ (.int .u32 0)).setCell ⟨w.heap.size + 1, 3, none⟩ (.slice none 0 0)).setCell ⟨w.heap.size + 1, 4, none⟩ (.slice none 0 0)) = WF at *
   clear z0 d0 z1 d1 z2 d2 z3 d3 z4 d4
   have f0 := HZ5.out.cell 0
   have f1 := HZ5.out.cell 1
   have f2 := HZ5.out.cell 2
   have f3 := HZ5.out.cell 3
   have f4 := HZ5.out.cell 4
   refine bodyPost_ret (v := .tuple #[.agg #[.int .i64 0, .int .i64 0, .int .u32 0, .slice none 0 0, .slice none 0 0], .int .i64 143]) (by simp [results, Tryz.results32, go_sem, f0, f1, f2, f3, f4]) rfl ?_
   exact OldP.err HFB.out HNM.out
end
section
open Go.RowKit
theorem rdSec_mem {t : Nat} {b p r : List Nat} (h : rdSec t b = .ok (p, r)) (h8 : ∀ x ∈ b, x < 256) : (∀ x ∈ p, x < 256) ∧ ∀ x ∈ r, x < 256 := by
 unfold rdSec at h
 split at h
 ·cases h
 ·rename_i x b1
  split at h
  ·cases h
  ·split at h
   ·cases h
   ·rename_i n b2 hn
    obtain ⟨_, _, c, hc⟩ := rdNum_lt hn
    have hb2 : ∀ x ∈ b2, x < 256 := fun x hx => h8 x (by rw [hc]; simp [hx])
    split at h
    ·cases h
    ·split at h
     ·cases h
      exact ⟨fun x hx => hb2 x (List.mem_of_mem_take hx), fun x hx => hb2 x (List.mem_of_mem_drop hx)⟩
     ·cases h
theorem rdSecs_mem : ∀ {ts b : List Nat} {ps : List (List Nat)} {r : List Nat}, rdSecs ts b = .ok (ps, r) → (∀ x ∈ b, x < 256) → ∀ p ∈ ps, ∀ x ∈ p, x < 256
 | [], b, ps, r, h, h8 => by cases h; exact fun p hp => by cases hp
 | t :: ts, b, ps, r, h, h8 => by
   unfold rdSecs at h
   split at h
   ·cases h
   ·rename_i p q hq
    split at h
    ·cases h
    ·rename_i ps' r' h2
     cases h
     have h3 := rdSec_mem hq h8
     have h4 := rdSecs_mem h2 h3.2
     intro p' hp'
     rcases List.mem_cons.1 hp' with rfl | hp'
     ·exact h3.1
     ·exact h4 p' hp'
theorem newM_fit {b : List Nat} {i : Img} (h : newM b = .ok i) (h8 : ∀ x ∈ b, x < 256) : i.last < 4294967296 ∧ i.rts.length = 64 ∧ ∀ t ∈ i.ts, t.Ok := by
 unfold newM at h
 split at h
 ·cases h
 ·rename_i ps r hs
  split at h
  ·cases h
  ·split at h
   ·cases h
   ·rename_i i' hp
    cases h
    have hm := rdSecs_mem hs h8
    have h1 : ∀ x ∈ ps.getD 1 [], x < 256 := by
     intro x hx
     rw [List.getD_eq_getElem?_getD] at hx
     cases hh : ps[1]? with
     | none => rw [hh] at hx; cases hx
     | some p => rw [hh] at hx; exact hm p (List.mem_of_getElem? hh) x hx
    unfold partsM at hp
    split at hp
    ·cases hp
    ·rename_i last q h0
     split at hp
     ·cases hp
     ·rename_i many q' h2
      split at hp
      ·cases hp
      ·split at hp
       ·cases hp
       ·rename_i ts q1 h3
        split at hp
        ·cases hp
        ·split at hp
         ·cases hp
         ·rename_i rts q2 h4
          split at hp
          ·cases hp
          ·cases hp
           exact ⟨(rdNum_lt h0).1, (rdK_len _ _ _ _ h4).1, (rdObjs_ok _ _ _ _ h3 h1).2.1⟩
theorem ob_words {b : Ob} (h : b.Ok) : ∀ x ∈ b.ws, x < 4294967296 := by
 intro x hx
 unfold Ob.ws at hx
 rcases List.mem_cons.1 hx with rfl | hx
 ·have := w0_lt h.fit; omega
 ·rcases List.mem_cons.1 hx with rfl | hx
  ·exact h.fit.cls
  ·rcases List.mem_cons.1 hx with rfl | hx
   ·exact h.fit.ser
   ·exact h.f32 x hx
structure Rd.Fit (r : Rd) : Prop where
 roots : r.roots.length = 64
 w32 : ∀ x ∈ r.words, x < 4294967296
 r32 : ∀ x ∈ r.roots, x < 4294967296
 last : r.last < 4294967296
theorem take_fit {b : List Nat} {r : Rd} (h : takeR b = .ok r) (h8 : ∀ x ∈ b, x < 256) : r.Fit := by
 unfold takeR at h
 split at h
 ·cases h
 ·split at h
  ·cases h
  ·split at h
   ·unfold oldM at h
    split at h
    ·cases h
    ·split at h
     ·cases h
     ·cases h
      exact ⟨by simp, fun x hx => by obtain ⟨i, _, rfl⟩ := List.mem_map.1 hx; exact word4_lt h8 _, fun x hx => by obtain ⟨i, _, rfl⟩ := List.mem_map.1 hx; exact word4_lt h8 _, word4_lt h8 _⟩
   ·split at h
    ·split at h
     ·cases h
     ·rename_i i hi
      cases h
      obtain ⟨h1, h2, h3⟩ := newM_fit hi (fun x hx => h8 x (List.mem_of_mem_drop hx))
      refine ⟨by show (i.rts.map (valT i.ts)).length = 64; rw [List.length_map, h2], fun x hx => ?_, fun x hx => ?_, h1⟩
      ·rcases List.mem_cons.1 (show x ∈ 0 :: wsOf (i.ts.map (obOf i.ts)) from hx) with rfl | hx
       ·omega
       ·obtain ⟨o, ho, hxo⟩ := List.mem_flatMap.1 hx
        obtain ⟨t, ht, rfl⟩ := List.mem_map.1 ho
        exact ob_words (obOf_ok (h3 t ht)) x hxo
      ·obtain ⟨n, _, rfl⟩ := List.mem_map.1 (show x ∈ i.rts.map (valT i.ts) from hx)
       exact valT_lt _ _
    ·cases h
end
section
open Go.RowKit
def istrN (xs : List Nat) : ByteArray := strOfNums (xs.map fun x : Nat => (x : Int))
theorem istrN_data (xs : List Nat) : (istrN xs).data = (xs.map UInt8.ofNat).toArray := by
 unfold istrN strOfNums
 simp [Function.comp_def]
theorem iofNat_inj {xs ys : List Nat} (hx : ∀ x ∈ xs, x < 256) (hy : ∀ y ∈ ys, y < 256) (h : xs.map UInt8.ofNat = ys.map UInt8.ofNat) : xs = ys := by
 induction xs generalizing ys with
 | nil => cases ys with
   | nil => rfl
   | cons y ys => simp at h
 | cons x xs ih =>
   cases ys with
   | nil => simp at h
   | cons y ys =>
     rw [List.map_cons, List.map_cons, List.cons.injEq] at h
     have h1 : x = y := by
      have e := congrArg UInt8.toNat h.1
      rw [UInt8.toNat_ofNat', UInt8.toNat_ofNat', Nat.mod_eq_of_lt (hx x (List.mem_cons_self ..)), Nat.mod_eq_of_lt (hy y (List.mem_cons_self ..))] at e
      exact e
     rw [h1, ih (fun z hz => hx z (List.mem_cons_of_mem _ hz)) (fun z hz => hy z (List.mem_cons_of_mem _ hz)) h.2]
theorem istrN_inj {xs ys : List Nat} (hx : ∀ x ∈ xs, x < 256) (hy : ∀ y ∈ ys, y < 256) : istrN xs = istrN ys ↔ xs = ys := by
 constructor
 ·intro h
  have e := congrArg ByteArray.data h
  rw [istrN_data, istrN_data] at e
  exact iofNat_inj hx hy (by simpa using e)
 ·intro h; rw [h]
theorem str_ne {a b : ByteArray} (h : a ≠ b) : (a.toList == b.toList) = false := by
 rw [Bool.eq_false_iff]
 intro e
 have e2 := eq_of_beq e
 rw [ByteArray.toList_eq, ByteArray.toList_eq] at e2
 obtain ⟨⟨x⟩⟩ := a
 obtain ⟨⟨y⟩⟩ := b
 exact h (by simp at e2; rw [e2])
theorem strN_mark : istrN [69, 70, 73, 71] = { data := #[69, 70, 73, 71] } := by
 have h := istrN_data [69, 70, 73, 71]
 generalize istrN [69, 70, 73, 71] = s at *
 obtain ⟨d⟩ := s
 simp only at h
 subst h
 rfl
set_option maxRecDepth 100000 in
theorem conv_head {w : World} {B n g o len c2 : Nat} {bs : List Nat} (hr : Reads w B 1 (some ⟨g, o, none⟩) n (u8c bs)) (hl : len ≤ n) (h0 : 0 < n) :
 (convert 22 9 (.slice (some ⟨g, o, none⟩) len c2)).run Tryz.prog w = .ok (.string (istrN (bs.take len))) w := by
 have hbl : bs.length = n := by have := hr.1; rw [u8c_len] at this; omega
 obtain ⟨ad, e, hb, hx⟩ := hr.2 h0
 injection e with e
 subst e
 refine run_convert_bytes_arg (P := Tryz.prog) w 22 5 Tryz.underlying22 Tryz.underlying5 g o len c2 ((bs.take len).map fun x : Nat => (x : Int)) (by simp; omega) (fun i hi => ?_) _ Tryz.underlying9
 have hli : i < bs.length := by omega
 have hy := hx i (.int .u8 (bs[i] : Nat)) (by unfold u8c; rw [List.getElem?_map, List.getElem?_eq_getElem hli]; rfl)
 rw [WideShapes.add_plain] at hy
 refine hy.trans ?_
 rw [List.getD_eq_getElem?_getD, List.getElem?_map, List.getElem?_take, if_pos hi, List.getElem?_eq_getElem hli]
 rfl
end
end Go.Proofs.YthadjmhipckelaaGreatDoor
