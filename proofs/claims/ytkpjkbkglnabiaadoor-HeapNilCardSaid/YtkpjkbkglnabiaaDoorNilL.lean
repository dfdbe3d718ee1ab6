/- HeapNil, walked: what a nil heap, and one that New did not make, answer. -/
import Derived.Test.YtkpjkbkglnabiaaDoorNo
import Derived.Test.YtkpjkbkglnabiaaDoorBoth
import Derived.LoopNIn
import Derived.RangeFuncNested
set_option linter.unusedVariables false
namespace Go.Proofs.YtkpjkbkglnabiaaDoor
open Go.RowKit Go.Sort
attribute [local go_sem] Oper.semAt_some

/-- The variables of HeapNil: the deed, the result, the heap that New did not make, the list of both; the marks that the loops left. -/
structure NilSt (W : World) (gE gL : Nat) (vals : Array Value) (Ds : List Nat) (w : World) : Prop where
  base : Below W.heap.size W w
  dd : Blk w W.heap.size 45 vals
  res : Blk w (W.heap.size + 1) 4 #[.bool false]
  hE : Blk w gE 75 #[.slice none 0 0, .slice none 0 0, .slice none 0 0, .int .i64 0, .int .u32 0]
  lst : Blk w gL 25 #[.pointer none, .pointer (some ⟨gE, 0, none⟩)]
  marks : ∀ D ∈ Ds, w.heap[D]? = some (.deferred (some []))
section
variable {W w w' : World} {gE gL : Nat} {vals : Array Value} {Ds : List Nat}
theorem NilSt.after (S : NilSt W gE gL vals Ds w) (hb : Below w.heap.size w w') : NilSt W gE gL vals Ds w' :=
  ⟨below_top S.base hb, S.dd.below hb S.dd.lt, S.res.below hb S.res.lt, S.hE.below hb S.hE.lt, S.lst.below hb S.lst.lt, fun D hD => (hb.block D (lt_of_get (S.marks D hD))).trans (S.marks D hD)⟩
theorem NilSt.own {β : Type} {B : Nat} (h1 : W.heap.size ≤ B) (h2 : W.heap.size + 1 < B) (h3 : gE < B) (h4 : gL < B) (h5 : ∀ D ∈ Ds, D < B) : OwnFrom B (fun (_ : β) w => NilSt W gE gL vals Ds w) := fun s w w' row S hg hr => by
  have hk : ∀ k, k < w.heap.size → k < B → w'.heap[k]? = w.heap[k]? := fun k hk hB => hg.block k hk (fun e => by have := (hr k e.symm).1; omega)
  exact ⟨⟨hg.os.trans S.base.os, hg.tape.trans S.base.tape, hg.output.trans S.base.output, Nat.le_trans S.base.size hg.size, fun k hk' => (hk k (Nat.lt_of_lt_of_le hk' S.base.size) (by omega)).trans (S.base.block k hk')⟩,
    S.dd.same (hk _ S.dd.lt (by omega)), S.res.same (hk _ S.res.lt h2), S.hE.same (hk _ S.hE.lt h3), S.lst.same (hk _ S.lst.lt h4), fun D hD => (hk D (lt_of_get (S.marks D hD)) (h5 D hD)).trans (S.marks D hD)⟩
theorem NilSt.no (S : NilSt W gE gL vals Ds w) : NoHp w (.pointer (some ⟨gE, 0, none⟩)) := .inr ⟨gE, rfl, S.hE.cell 3⟩
end
theorem run_neq_fn (g : Nat) (w : World) : (binOp .neq 65 (.func (.func 58) #[] #[.pointer (some ⟨g, 0, none⟩)]) .nilFunc).run Tryd.prog w = .ok (.bool true) w := by kernel_rfl

set_option maxRecDepth 100000 in
set_option maxHeartbeats 40000000 in
theorem nilL_any (W : World) (E : Env W) (d : Dd) (fd : d.Fit) (A : Option Addr) (n c : Nat) (hn : n ≤ 9223372036854775807) (hr : Reads W W.heap.size 1 A n (u8c d.b)) :
    Calls Tryd.prog 9 #[d.val A n c] W (Told (.bool true) W) := by
  have HE := Lib.hid E
  have HAW := Lib.hid (fun w (E : Env w) => awake_any w E)
  have HFO := Lib.hid fd.o
  clear hr fd
  unfold Dd.val
  refine (callsIn_wide (n := 8)).1 ?_
  refine callsIn_of_wp_marks Tryd.func9 rfl trivial ?_ rfl
  simp only [Tryd.ntmps9, List.size_toArray, List.length_cons, List.length_nil, Nat.reduceAdd, Nat.reduceSub, Array.replicate_succ, Array.replicate_zero, List.push_toArray, List.append_toArray, List.nil_append, List.cons_append]
  have hb0 : Below W.heap.size W ((W.alloc (.cells #[.int .i64 d.k, .int .u32 (d.o : Nat), .int .u32 (d.v : Nat), .int .i64 d.f, .int .i64 d.i, .int .i64 d.n, .int .u32 (d.w : Nat), .slice A n c] 45)).alloc (.cells #[.bool false] 4)) := ((Below.refl _ _).alloc (Nat.le_refl _) _).alloc (by simp) _
  have BD : Blk ((W.alloc (.cells #[.int .i64 d.k, .int .u32 (d.o : Nat), .int .u32 (d.v : Nat), .int .i64 d.f, .int .i64 d.i, .int .i64 d.n, .int .u32 (d.w : Nat), .slice A n c] 45)).alloc (.cells #[.bool false] 4)) W.heap.size 45 #[.int .i64 d.k, .int .u32 (d.o : Nat), .int .u32 (d.v : Nat), .int .i64 d.f, .int .i64 d.i, .int .i64 d.n, .int .u32 (d.w : Nat), .slice A n c] := (Blk.new W _ _).alloc _
  have BR : Blk ((W.alloc (.cells #[.int .i64 d.k, .int .u32 (d.o : Nat), .int .u32 (d.v : Nat), .int .i64 d.f, .int .i64 d.i, .int .i64 d.n, .int .u32 (d.w : Nat), .slice A n c] 45)).alloc (.cells #[.bool false] 4)) (W.heap.size + 1) 4 #[.bool false] := by
    have := Blk.new (W.alloc (.cells #[.int .i64 d.k, .int .u32 (d.o : Nat), .int .u32 (d.v : Nat), .int .i64 d.f, .int .i64 d.i, .int .i64 d.n, .int .u32 (d.w : Nat), .slice A n c] 45)) 4 #[.bool false]
    rw [World.size_alloc] at this
    exact this
  gi_wp2_with fail
  generalize (W.alloc (.cells #[.int .i64 d.k, .int .u32 (d.o : Nat), .int .u32 (d.v : Nat), .int .i64 d.f, .int .i64 d.i, .int .i64 d.n, .int .u32 (d.w : Nat), .slice A n c] 45)).alloc (.cells #[.bool false] 4) = W0 at *
  refine ⟨trivial, (callsIn_wide.2 (HAW.out _ (HE.out.below hb0))).mono ?_⟩
  rintro e w1 ⟨rfl, hb1⟩
  have hB1 := below_top hb0 (hb1.mono (Nat.le_refl _))
  have hs1 : W.heap.size + 1 < w1.heap.size := by have := BR.lt; have := hb1.size; omega
  have HST := Lib.hid (show NilSt W w1.heap.size (w1.heap.size + 1) #[.int .i64 d.k, .int .u32 (d.o : Nat), .int .u32 (d.v : Nat), .int .i64 d.f, .int .i64 d.i, .int .i64 d.n, .int .u32 (d.w : Nat), .slice A n c] [] ((w1.alloc (.cells #[.slice none 0 0, .slice none 0 0, .slice none 0 0, .int .i64 0, .int .u32 0] 75)).alloc (.cells #[.pointer none, .pointer (some ⟨w1.heap.size, 0, none⟩)] 25)) from
    ⟨(hB1.alloc hB1.size _).alloc (by have := hB1.size; simp; omega) _, ((BD.below hb1 BD.lt).alloc _).alloc _, ((BR.below hb1 BR.lt).alloc _).alloc _, (Blk.new w1 _ _).alloc _, by
      have := Blk.new (w1.alloc (.cells #[.slice none 0 0, .slice none 0 0, .slice none 0 0, .int .i64 0, .int .u32 0] 75)) 25 #[.pointer none, .pointer (some ⟨w1.heap.size, 0, none⟩)]
      rw [World.size_alloc] at this
      exact this, fun D hD => by cases hD⟩)
  clear BD BR hb0 hb1 hB1
  gi_wp2_with fail
  refine wpIn_loop_rounds 3 ?_
  generalize (w1.alloc (.cells #[.slice none 0 0, .slice none 0 0, .slice none 0 0, .int .i64 0, .int .u32 0] 75)).alloc (.cells #[.pointer none, .pointer (some ⟨w1.heap.size, 0, none⟩)] 25) = w2 at *
  generalize w1.heap.size = gE at *
  rw [roundsIn_succ]
  have N0 : NoHp w2 (.pointer none) := .inl rfl
  have cl0 := HST.out.lst.cell 0
  have cl1 := HST.out.lst.cell 1
  have HSZ := Lib.hid (fun w' (hb : Below w2.heap.size w2 w') => size_no (N0.below hb))
  have HTP := Lib.hid (fun w' (hb : Below w2.heap.size w2 w') => top_no (N0.below hb))
  have HLT := Lib.hid (fun w' (hb : Below w2.heap.size w2 w') => last_no (N0.below hb))
  have HIS := Lib.hid (fun w' (hb : Below w2.heap.size w2 w') => is_no (N0.below hb) d.o HFO.out)
  have HFS := Lib.hid (fun w' (hb : Below w2.heap.size w2 w') => first_no (N0.below hb))
  have HFD := Lib.hid (fun w' (hb : Below w2.heap.size w2 w') => find_no (N0.below hb) d.w)
  have HWD := Lib.hid (fun w' (hb : Below w2.heap.size w2 w') => words_no (N0.below hb))
  have HRT := Lib.hid (fun w' (hb : Below w2.heap.size w2 w') => roots_no (N0.below hb))
  have HCL := Lib.hid (fun w' (hb : Below w2.heap.size w2 w') => clone_no (N0.below hb))
  have HDC := Lib.hid (fun w' (hb : Below w2.heap.size w2 w') => (HST.out.after hb).dd)
  have hb0 := Below.refl w2.heap.size w2
  gi_wp2_with fail
  clear cl0 cl1
  refine ⟨trivial, (callsIn_wide.2 (HSZ.out _ hb0)).mono ?_⟩
  rintro e wz ⟨rfl, rfl⟩
  gi_wp2_with fail
  refine ⟨trivial, (callsIn_wide.2 (HTP.out _ hb0)).mono ?_⟩
  rintro e wz ⟨rfl, rfl⟩
  gi_wp2_with fail
  refine ⟨trivial, (callsIn_wide.2 (HLT.out _ hb0)).mono ?_⟩
  rintro e wz ⟨rfl, rfl⟩
  have c1 := (HDC.out _ hb0).cell 1
  gi_wp2_with fail
  refine ⟨trivial, (callsIn_wide.2 (HIS.out _ hb0)).mono ?_⟩
  rintro e wz ⟨rfl, rfl⟩
  gi_wp2_with fail
  refine ⟨trivial, (callsIn_wide.2 (HFS.out _ hb0)).mono ?_⟩
  rintro e wz ⟨rfl, rfl⟩
  have c6 := (HDC.out _ hb0).cell 6
  gi_wp2_with fail
  refine ⟨trivial, (callsIn_wide.2 (HFD.out _ hb0)).mono ?_⟩
  rintro e wa0 ⟨rfl, hb⟩
  have hwa0 := below_top hb0 hb
  clear hb
  clear c1 c6
  gi_wp2_with fail
  refine ⟨trivial, (callsIn_wide.2 (HWD.out _ hwa0)).mono ?_⟩
  rintro e wz ⟨rfl, rfl⟩
  gi_wp2_with fail
  refine ⟨trivial, (callsIn_wide.2 (HRT.out _ hwa0)).mono ?_⟩
  rintro e wz ⟨rfl, rfl⟩
  gi_wp2_with fail
  refine ⟨trivial, (callsIn_wide.2 (HCL.out _ hwa0)).mono ?_⟩
  rintro e wz ⟨rfl, rfl⟩
  gi_wp2_with fail
  refine ⟨trivial, (callsIn_wide.2 (allv_any _ (none))).mono ?_⟩
  rintro e wz ⟨rfl, rfl⟩
  have hneq := run_neq_fn wa0.heap.size
  have hbox : (wa0.alloc (.cells #[.pointer none] 25)).cell? ⟨wa0.heap.size, 0, none⟩ = some (.pointer none) := (Blk.new wa0 25 #[.pointer none]).cell 0
  have hba := hwa0.alloc hwa0.size (.cells #[.pointer none] 25)
  have HSA := Lib.hid (HST.out.after hba)
  have HNA := Lib.hid (N0.below hba)
  have hgr : W.heap.size + 1 < wa0.heap.size ∧ gE < wa0.heap.size ∧ gE + 1 < wa0.heap.size ∧ ∀ D ∈ [], D < wa0.heap.size := by
    have S := HST.out.after hwa0
    exact ⟨S.res.lt, S.hE.lt, S.lst.lt, fun D hD => lt_of_get (S.marks D hD)⟩
  have HGR := Lib.hid hgr
  clear hgr HSZ HTP HLT HIS HFS HFD HWD HRT HCL HDC hb0 N0
  gi_wp2_with fail
  clear hneq
  refine wpIn_rangeFunc_ownH (F := Fence.wide) rfl (by omega) (gf := 58) (lb := #[.pointer (some ⟨wa0.heap.size, 0, none⟩)]) rfl trivial (enters_of Tryd.func58 (by kernel_rfl) rfl)
    (all1_no (α := Fin 0) (fun x => x.elim0) (fun _ _ => True) 7 wa0.heap.size (none) HNA.out hbox) (fun _ _ => trivial) (fun _ _ _ _ _ _ _ _ => trivial) (Below.refl _ _) (fun x => x.elim0)
    (fun _ w => NilSt W gE (gE + 1) #[.int .i64 d.k, .int .u32 (d.o : Nat), .int .u32 (d.v : Nat), .int .i64 d.f, .int .i64 d.i, .int .i64 d.n, .int .u32 (d.w : Nat), .slice A n c] [] w) (fun _ _ _ => False)
    (NilSt.own (by have := HGR.out.1; simp; omega) (by have := HGR.out.1; simp; omega) (by have := HGR.out.2.1; simp; omega) (by have := HGR.out.2.2.1; simp; omega) (fun D hD => by have := HGR.out.2.2.2 D hD; simp; omega))
    (fun c s w w' row h _ _ => h.elim) HSA.out (fun x => x.elim0) (fun x => x.elim0) (fun l pre x => x.elim0) (fun l pre x => x.elim0) ?done0 (fun D c pre W _ h => h.elim)
  case done0 =>
  rintro D10 xs w10 hD10 - S10 hmk10
  have HS10 := Lib.hid (show NilSt W gE (gE + 1) #[.int .i64 d.k, .int .u32 (d.o : Nat), .int .u32 (d.v : Nat), .int .i64 d.f, .int .i64 d.i, .int .i64 d.n, .int .u32 (d.w : Nat), .slice A n c] (D10 :: []) w10 from ⟨S10.base, S10.dd, S10.res, S10.hE, S10.lst, fun D hD => by
    rcases List.mem_cons.1 hD with rfl | hD
    · exact hmk10
    · exact S10.marks D hD⟩)
  have hDl10 : ∀ D ∈ [], D < D10 := fun D hD => by have := HGR.out.2.2.2 D hD; simp at hD10; omega
  have hDW10 : W.heap.size < D10 := by have := HGR.out.1; simp at hD10; omega
  clear S10 hmk10 hba HSA HNA hbox
  have N1 : NoHp w10 (.pointer none) := .inl rfl
  have HHD := Lib.hid (fun w' (hb : Below w10.heap.size w10 w') => header_no (N1.below hb) d.o HFO.out)
  have HLN := Lib.hid (fun w' (hb : Below w10.heap.size w10 w') => length_no (N1.below hb) d.o HFO.out)
  have HGT := Lib.hid (fun w' (hb : Below w10.heap.size w10 w') => get_no (N1.below hb) d.o HFO.out d.i)
  have HNX := Lib.hid (fun w' (hb : Below w10.heap.size w10 w') => next_no (N1.below hb) d.o HFO.out)
  have HBY := Lib.hid (fun w' (hb : Below w10.heap.size w10 w') => bytes_no (N1.below hb) d.o HFO.out)
  have HSW := Lib.hid (fun w' (hb : Below w10.heap.size w10 w') => show_no (N1.below hb) d.o HFO.out)
  have HPT := Lib.hid (fun w' (hb : Below w10.heap.size w10 w') => put_no (N1.below hb) d.o HFO.out d.i d.v)
  have HSC := Lib.hid (fun w' (hb : Below w10.heap.size w10 w') => setClass_no (N1.below hb) d.o HFO.out d.v)
  have HRO := Lib.hid (fun w' (hb : Below w10.heap.size w10 w') => root_no (N1.below hb) d.i)
  have HSR := Lib.hid (fun w' (hb : Below w10.heap.size w10 w') => setRoot_no (N1.below hb) d.i d.v)
  have HAL := Lib.hid (fun w' (hb : Below w10.heap.size w10 w') => Alloc_no (N1.below hb))
  have HMK := Lib.hid (fun w' (hb : Below w10.heap.size w10 w') => make_no (N1.below hb))
  have HLO := Lib.hid (fun w' (hb : Below w10.heap.size w10 w') A A' n c n' c' r => load_no (N1.below hb) A A' n c n' c' r)
  have HS1 := Lib.hid (fun w' (hb : Below w10.heap.size w10 w') => same_no (N1.below hb) (show NoHp w' (.pointer none) from .inl rfl))
  have HS2 := Lib.hid (fun w' (hb : Below w10.heap.size w10 w') => same_no (show NoHp w' (.pointer none) from .inl rfl) (N1.below hb))
  have HDC := Lib.hid (fun w' (hb : Below w10.heap.size w10 w') => (HS10.out.after hb).dd)
  unfold str at HSW
  have hb0 := Below.refl w10.heap.size w10
  have hmk := mk64
  have c1 := (HDC.out _ hb0).cell 1
  gi_wp2_with fail
  clear c1
  refine ⟨trivial, (callsIn_wide.2 (HHD.out _ hb0)).mono ?_⟩
  rintro e wh0 ⟨rfl, hb⟩
  have hh0 := below_top hb0 hb
  clear hb
  have hx0 := hh0.alloc hh0.size (.cells #[.int .i64 0, .int .i64 0, .int .i64 0, .int .u32 0, .int .u32 0] 52)
  have c1 := (HDC.out _ hx0).cell 1
  gi_wp2_with fail
  clear c1
  refine ⟨trivial, (callsIn_wide.2 (HLN.out _ hx0)).mono ?_⟩
  rintro e wi0 ⟨rfl, hb⟩
  have hwi0 := below_top hx0 hb
  clear hb
  have c1 := (HDC.out _ hwi0).cell 1
  have c4 := (HDC.out _ hwi0).cell 4
  gi_wp2_with fail
  clear c1 c4
  refine ⟨trivial, (callsIn_wide.2 (HGT.out _ hwi0)).mono ?_⟩
  rintro e wj0 ⟨rfl, hb⟩
  have hwj0 := below_top hwi0 hb
  clear hb
  have c1 := (HDC.out _ hwj0).cell 1
  gi_wp2_with fail
  clear c1
  refine ⟨trivial, (callsIn_wide.2 (HNX.out _ hwj0)).mono ?_⟩
  rintro e wz ⟨rfl, rfl⟩
  have c1 := (HDC.out _ hwj0).cell 1
  gi_wp2_with fail
  clear c1
  refine ⟨trivial, (callsIn_wide.2 (HBY.out _ hwj0)).mono ?_⟩
  rintro e wl0 ⟨rfl, hb⟩
  have hwl0 := below_top hwj0 hb
  clear hb
  have c1 := (HDC.out _ hwl0).cell 1
  gi_wp2_with fail
  clear c1
  refine ⟨trivial, (callsIn_wide.2 (HSW.out _ hwl0)).mono ?_⟩
  rintro e wm0 ⟨rfl, hb⟩
  have hwm0 := below_top hwl0 hb
  clear hb
  gi_wp2_with fail
  refine ⟨trivial, (callsIn_wide.2 (num_any 3 (by decide) _)).mono ?_⟩
  rintro e wz ⟨rfl, rfl⟩
  gi_wp2_with fail
  refine ⟨trivial, (callsIn_wide.2 (num_any 3 (by decide) _)).mono ?_⟩
  rintro e wz ⟨rfl, rfl⟩
  gi_wp2_with fail
  refine ⟨trivial, (callsIn_wide.2 (num_any 3 (by decide) _)).mono ?_⟩
  rintro e wz ⟨rfl, rfl⟩
  gi_wp2_with fail
  refine ⟨trivial, (callsIn_wide.2 (num_any 3 (by decide) _)).mono ?_⟩
  rintro e wz ⟨rfl, rfl⟩
  gi_wp2_with fail
  refine ⟨trivial, (callsIn_wide.2 (num_any 3 (by decide) _)).mono ?_⟩
  rintro e wz ⟨rfl, rfl⟩
  gi_wp2_with fail
  refine ⟨trivial, (callsIn_wide.2 (num_any 3 (by decide) _)).mono ?_⟩
  rintro e wz ⟨rfl, rfl⟩
  have c1 := (HDC.out _ hwm0).cell 1
  have c4 := (HDC.out _ hwm0).cell 4
  have c2 := (HDC.out _ hwm0).cell 2
  gi_wp2_with fail
  clear c1 c4 c2
  refine ⟨trivial, (callsIn_wide.2 (HPT.out _ hwm0)).mono ?_⟩
  rintro e wn0 ⟨rfl, hb⟩
  have hwn0 := below_top hwm0 hb
  clear hb
  gi_wp2_with fail
  refine ⟨trivial, (callsIn_wide.2 (num_any 3 (by decide) _)).mono ?_⟩
  rintro e wz ⟨rfl, rfl⟩
  have c1 := (HDC.out _ hwn0).cell 1
  have c2 := (HDC.out _ hwn0).cell 2
  gi_wp2_with fail
  clear c1 c2
  refine ⟨trivial, (callsIn_wide.2 (HSC.out _ hwn0)).mono ?_⟩
  rintro e wz ⟨rfl, rfl⟩
  gi_wp2_with fail
  refine ⟨trivial, (callsIn_wide.2 (num_any 3 (by decide) _)).mono ?_⟩
  rintro e wz ⟨rfl, rfl⟩
  have c4 := (HDC.out _ hwn0).cell 4
  gi_wp2_with fail
  clear c4
  refine ⟨trivial, (callsIn_wide.2 (HRO.out _ hwn0)).mono ?_⟩
  rintro e wz ⟨rfl, rfl⟩
  gi_wp2_with fail
  refine ⟨trivial, (callsIn_wide.2 (num_any 1 (by decide) _)).mono ?_⟩
  rintro e wz ⟨rfl, rfl⟩
  have c4 := (HDC.out _ hwn0).cell 4
  have c2 := (HDC.out _ hwn0).cell 2
  gi_wp2_with fail
  clear c4 c2
  refine ⟨trivial, (callsIn_wide.2 (HSR.out _ hwn0)).mono ?_⟩
  rintro e wz ⟨rfl, rfl⟩
  gi_wp2_with fail
  refine ⟨trivial, (callsIn_wide.2 (num_any 1 (by decide) _)).mono ?_⟩
  rintro e wz ⟨rfl, rfl⟩
  gi_wp2_with fail
  have hbs := (hwn0.alloc hwn0.size (.cells #[.int .u32 0] 30)).alloc (by have := hwn0.size; simp; omega) (.cells zeros64 31)
  refine ⟨trivial, (callsIn_wide.2 (HLO.out _ hbs _ _ _ _ _ _ _)).mono ?_⟩
  rintro e wz ⟨rfl, rfl⟩
  gi_wp2_with fail
  refine ⟨trivial, (callsIn_wide.2 (num_any 1 (by decide) _)).mono ?_⟩
  rintro e wz ⟨rfl, rfl⟩
  gi_wp2_with fail
  refine ⟨trivial, (callsIn_wide.2 (HS1.out _ hbs)).mono ?_⟩
  rintro e wz ⟨rfl, rfl⟩
  gi_wp2_with fail
  refine ⟨trivial, (callsIn_wide.2 (HS2.out _ hbs)).mono ?_⟩
  rintro e wz ⟨rfl, rfl⟩
  gi_wp2_with fail
  refine ⟨trivial, (callsIn_wide.2 (HAL.out _ hbs)).mono ?_⟩
  rintro e wp0 ⟨rfl, hb⟩
  have hwp0 := below_top hbs hb
  clear hb
  gi_wp2_with fail
  refine ⟨trivial, (callsIn_wide.2 (HMK.out _ hwp0)).mono ?_⟩
  rintro e wq0 ⟨rfl, hb⟩
  have hwq0 := below_top hwp0 hb
  clear hb
  gi_wp2_with fail
  refine ⟨trivial, (callsIn_wide.2 (num_any 4 (by decide) _)).mono ?_⟩
  rintro e wz ⟨rfl, rfl⟩
  gi_wp2_with fail
  refine ⟨trivial, (callsIn_wide.2 (num_any 4 (by decide) _)).mono ?_⟩
  rintro e wz ⟨rfl, rfl⟩
  gi_wp2_with fail
  have HST1 := Lib.hid (HS10.out.after hwq0)
  clear HHD HLN HGT HNX HBY HSW HPT HSC HRO HSR HAL HMK HLO HS1 HS2 HDC hb0 N1 hmk
  rw [roundsIn_succ]
  have N0 : NoHp wq0 (.pointer (some ⟨gE, 0, none⟩)) := HST1.out.no
  have cl0 := HST1.out.lst.cell 0
  have cl1 := HST1.out.lst.cell 1
  have HSZ := Lib.hid (fun w' (hb : Below wq0.heap.size wq0 w') => size_no (N0.below hb))
  have HTP := Lib.hid (fun w' (hb : Below wq0.heap.size wq0 w') => top_no (N0.below hb))
  have HLT := Lib.hid (fun w' (hb : Below wq0.heap.size wq0 w') => last_no (N0.below hb))
  have HIS := Lib.hid (fun w' (hb : Below wq0.heap.size wq0 w') => is_no (N0.below hb) d.o HFO.out)
  have HFS := Lib.hid (fun w' (hb : Below wq0.heap.size wq0 w') => first_no (N0.below hb))
  have HFD := Lib.hid (fun w' (hb : Below wq0.heap.size wq0 w') => find_no (N0.below hb) d.w)
  have HWD := Lib.hid (fun w' (hb : Below wq0.heap.size wq0 w') => words_no (N0.below hb))
  have HRT := Lib.hid (fun w' (hb : Below wq0.heap.size wq0 w') => roots_no (N0.below hb))
  have HCL := Lib.hid (fun w' (hb : Below wq0.heap.size wq0 w') => clone_no (N0.below hb))
  have HDC := Lib.hid (fun w' (hb : Below wq0.heap.size wq0 w') => (HST1.out.after hb).dd)
  have hb0 := Below.refl wq0.heap.size wq0
  gi_wp2_with fail
  clear cl0 cl1
  refine ⟨trivial, (callsIn_wide.2 (HSZ.out _ hb0)).mono ?_⟩
  rintro e wz ⟨rfl, rfl⟩
  gi_wp2_with fail
  refine ⟨trivial, (callsIn_wide.2 (HTP.out _ hb0)).mono ?_⟩
  rintro e wz ⟨rfl, rfl⟩
  gi_wp2_with fail
  refine ⟨trivial, (callsIn_wide.2 (HLT.out _ hb0)).mono ?_⟩
  rintro e wz ⟨rfl, rfl⟩
  have c1 := (HDC.out _ hb0).cell 1
  gi_wp2_with fail
  refine ⟨trivial, (callsIn_wide.2 (HIS.out _ hb0)).mono ?_⟩
  rintro e wz ⟨rfl, rfl⟩
  gi_wp2_with fail
  refine ⟨trivial, (callsIn_wide.2 (HFS.out _ hb0)).mono ?_⟩
  rintro e wz ⟨rfl, rfl⟩
  have c6 := (HDC.out _ hb0).cell 6
  gi_wp2_with fail
  refine ⟨trivial, (callsIn_wide.2 (HFD.out _ hb0)).mono ?_⟩
  rintro e wa1 ⟨rfl, hb⟩
  have hwa1 := below_top hb0 hb
  clear hb
  clear c1 c6
  gi_wp2_with fail
  refine ⟨trivial, (callsIn_wide.2 (HWD.out _ hwa1)).mono ?_⟩
  rintro e wz ⟨rfl, rfl⟩
  gi_wp2_with fail
  refine ⟨trivial, (callsIn_wide.2 (HRT.out _ hwa1)).mono ?_⟩
  rintro e wz ⟨rfl, rfl⟩
  gi_wp2_with fail
  refine ⟨trivial, (callsIn_wide.2 (HCL.out _ hwa1)).mono ?_⟩
  rintro e wz ⟨rfl, rfl⟩
  gi_wp2_with fail
  refine ⟨trivial, (callsIn_wide.2 (allv_any _ (some ⟨gE, 0, none⟩))).mono ?_⟩
  rintro e wz ⟨rfl, rfl⟩
  have hneq := run_neq_fn wa1.heap.size
  have hbox : (wa1.alloc (.cells #[.pointer (some ⟨gE, 0, none⟩)] 25)).cell? ⟨wa1.heap.size, 0, none⟩ = some (.pointer (some ⟨gE, 0, none⟩)) := (Blk.new wa1 25 #[.pointer (some ⟨gE, 0, none⟩)]).cell 0
  have hba := hwa1.alloc hwa1.size (.cells #[.pointer (some ⟨gE, 0, none⟩)] 25)
  have HSA := Lib.hid (HST1.out.after hba)
  have HNA := Lib.hid (N0.below hba)
  have hgr : W.heap.size + 1 < wa1.heap.size ∧ gE < wa1.heap.size ∧ gE + 1 < wa1.heap.size ∧ ∀ D ∈ [D10], D < wa1.heap.size := by
    have S := HST1.out.after hwa1
    exact ⟨S.res.lt, S.hE.lt, S.lst.lt, fun D hD => lt_of_get (S.marks D hD)⟩
  have HGR := Lib.hid hgr
  clear hgr HSZ HTP HLT HIS HFS HFD HWD HRT HCL HDC hb0 N0
  gi_wp2_with fail
  clear hneq
  refine wpIn_rangeFunc_ownH (F := Fence.wide) rfl (by omega) (gf := 58) (lb := #[.pointer (some ⟨wa1.heap.size, 0, none⟩)]) rfl trivial (enters_of Tryd.func58 (by kernel_rfl) rfl)
    (all1_no (α := Fin 0) (fun x => x.elim0) (fun _ _ => True) 7 wa1.heap.size (some ⟨gE, 0, none⟩) HNA.out hbox) (fun _ _ => trivial) (fun _ _ _ _ _ _ _ _ => trivial) (Below.refl _ _) (fun x => x.elim0)
    (fun _ w => NilSt W gE (gE + 1) #[.int .i64 d.k, .int .u32 (d.o : Nat), .int .u32 (d.v : Nat), .int .i64 d.f, .int .i64 d.i, .int .i64 d.n, .int .u32 (d.w : Nat), .slice A n c] [D10] w) (fun _ _ _ => False)
    (NilSt.own (by have := HGR.out.1; simp; omega) (by have := HGR.out.1; simp; omega) (by have := HGR.out.2.1; simp; omega) (by have := HGR.out.2.2.1; simp; omega) (fun D hD => by have := HGR.out.2.2.2 D hD; simp; omega))
    (fun c s w w' row h _ _ => h.elim) HSA.out (fun x => x.elim0) (fun x => x.elim0) (fun l pre x => x.elim0) (fun l pre x => x.elim0) ?done1 (fun D c pre W _ h => h.elim)
  case done1 =>
  rintro D11 xs w11 hD11 - S11 hmk11
  have HS11 := Lib.hid (show NilSt W gE (gE + 1) #[.int .i64 d.k, .int .u32 (d.o : Nat), .int .u32 (d.v : Nat), .int .i64 d.f, .int .i64 d.i, .int .i64 d.n, .int .u32 (d.w : Nat), .slice A n c] (D11 :: [D10]) w11 from ⟨S11.base, S11.dd, S11.res, S11.hE, S11.lst, fun D hD => by
    rcases List.mem_cons.1 hD with rfl | hD
    · exact hmk11
    · exact S11.marks D hD⟩)
  have hDl11 : ∀ D ∈ [D10], D < D11 := fun D hD => by have := HGR.out.2.2.2 D hD; simp at hD11; omega
  have hDW11 : W.heap.size < D11 := by have := HGR.out.1; simp at hD11; omega
  clear S11 hmk11 hba HSA HNA hbox
  have N1 : NoHp w11 (.pointer (some ⟨gE, 0, none⟩)) := HS11.out.no
  have HHD := Lib.hid (fun w' (hb : Below w11.heap.size w11 w') => header_no (N1.below hb) d.o HFO.out)
  have HLN := Lib.hid (fun w' (hb : Below w11.heap.size w11 w') => length_no (N1.below hb) d.o HFO.out)
  have HGT := Lib.hid (fun w' (hb : Below w11.heap.size w11 w') => get_no (N1.below hb) d.o HFO.out d.i)
  have HNX := Lib.hid (fun w' (hb : Below w11.heap.size w11 w') => next_no (N1.below hb) d.o HFO.out)
  have HBY := Lib.hid (fun w' (hb : Below w11.heap.size w11 w') => bytes_no (N1.below hb) d.o HFO.out)
  have HSW := Lib.hid (fun w' (hb : Below w11.heap.size w11 w') => show_no (N1.below hb) d.o HFO.out)
  have HPT := Lib.hid (fun w' (hb : Below w11.heap.size w11 w') => put_no (N1.below hb) d.o HFO.out d.i d.v)
  have HSC := Lib.hid (fun w' (hb : Below w11.heap.size w11 w') => setClass_no (N1.below hb) d.o HFO.out d.v)
  have HRO := Lib.hid (fun w' (hb : Below w11.heap.size w11 w') => root_no (N1.below hb) d.i)
  have HSR := Lib.hid (fun w' (hb : Below w11.heap.size w11 w') => setRoot_no (N1.below hb) d.i d.v)
  have HAL := Lib.hid (fun w' (hb : Below w11.heap.size w11 w') => Alloc_no (N1.below hb))
  have HMK := Lib.hid (fun w' (hb : Below w11.heap.size w11 w') => make_no (N1.below hb))
  have HLO := Lib.hid (fun w' (hb : Below w11.heap.size w11 w') A A' n c n' c' r => load_no (N1.below hb) A A' n c n' c' r)
  have HS1 := Lib.hid (fun w' (hb : Below w11.heap.size w11 w') => same_no (N1.below hb) (show NoHp w' (.pointer none) from .inl rfl))
  have HS2 := Lib.hid (fun w' (hb : Below w11.heap.size w11 w') => same_no (show NoHp w' (.pointer none) from .inl rfl) (N1.below hb))
  have HDC := Lib.hid (fun w' (hb : Below w11.heap.size w11 w') => (HS11.out.after hb).dd)
  unfold str at HSW
  have hb0 := Below.refl w11.heap.size w11
  have hmk := mk64
  have c1 := (HDC.out _ hb0).cell 1
  gi_wp2_with fail
  clear c1
  refine ⟨trivial, (callsIn_wide.2 (HHD.out _ hb0)).mono ?_⟩
  rintro e wh1 ⟨rfl, hb⟩
  have hh1 := below_top hb0 hb
  clear hb
  have hx1 := hh1.alloc hh1.size (.cells #[.int .i64 0, .int .i64 0, .int .i64 0, .int .u32 0, .int .u32 0] 52)
  have c1 := (HDC.out _ hx1).cell 1
  gi_wp2_with fail
  clear c1
  refine ⟨trivial, (callsIn_wide.2 (HLN.out _ hx1)).mono ?_⟩
  rintro e wi1 ⟨rfl, hb⟩
  have hwi1 := below_top hx1 hb
  clear hb
  have c1 := (HDC.out _ hwi1).cell 1
  have c4 := (HDC.out _ hwi1).cell 4
  gi_wp2_with fail
  clear c1 c4
  refine ⟨trivial, (callsIn_wide.2 (HGT.out _ hwi1)).mono ?_⟩
  rintro e wj1 ⟨rfl, hb⟩
  have hwj1 := below_top hwi1 hb
  clear hb
  have c1 := (HDC.out _ hwj1).cell 1
  gi_wp2_with fail
  clear c1
  refine ⟨trivial, (callsIn_wide.2 (HNX.out _ hwj1)).mono ?_⟩
  rintro e wz ⟨rfl, rfl⟩
  have c1 := (HDC.out _ hwj1).cell 1
  gi_wp2_with fail
  clear c1
  refine ⟨trivial, (callsIn_wide.2 (HBY.out _ hwj1)).mono ?_⟩
  rintro e wl1 ⟨rfl, hb⟩
  have hwl1 := below_top hwj1 hb
  clear hb
  have c1 := (HDC.out _ hwl1).cell 1
  gi_wp2_with fail
  clear c1
  refine ⟨trivial, (callsIn_wide.2 (HSW.out _ hwl1)).mono ?_⟩
  rintro e wm1 ⟨rfl, hb⟩
  have hwm1 := below_top hwl1 hb
  clear hb
  gi_wp2_with fail
  refine ⟨trivial, (callsIn_wide.2 (num_any 3 (by decide) _)).mono ?_⟩
  rintro e wz ⟨rfl, rfl⟩
  gi_wp2_with fail
  refine ⟨trivial, (callsIn_wide.2 (num_any 3 (by decide) _)).mono ?_⟩
  rintro e wz ⟨rfl, rfl⟩
  gi_wp2_with fail
  refine ⟨trivial, (callsIn_wide.2 (num_any 3 (by decide) _)).mono ?_⟩
  rintro e wz ⟨rfl, rfl⟩
  gi_wp2_with fail
  refine ⟨trivial, (callsIn_wide.2 (num_any 3 (by decide) _)).mono ?_⟩
  rintro e wz ⟨rfl, rfl⟩
  gi_wp2_with fail
  refine ⟨trivial, (callsIn_wide.2 (num_any 3 (by decide) _)).mono ?_⟩
  rintro e wz ⟨rfl, rfl⟩
  gi_wp2_with fail
  refine ⟨trivial, (callsIn_wide.2 (num_any 3 (by decide) _)).mono ?_⟩
  rintro e wz ⟨rfl, rfl⟩
  have c1 := (HDC.out _ hwm1).cell 1
  have c4 := (HDC.out _ hwm1).cell 4
  have c2 := (HDC.out _ hwm1).cell 2
  gi_wp2_with fail
  clear c1 c4 c2
  refine ⟨trivial, (callsIn_wide.2 (HPT.out _ hwm1)).mono ?_⟩
  rintro e wn1 ⟨rfl, hb⟩
  have hwn1 := below_top hwm1 hb
  clear hb
  gi_wp2_with fail
  refine ⟨trivial, (callsIn_wide.2 (num_any 3 (by decide) _)).mono ?_⟩
  rintro e wz ⟨rfl, rfl⟩
  have c1 := (HDC.out _ hwn1).cell 1
  have c2 := (HDC.out _ hwn1).cell 2
  gi_wp2_with fail
  clear c1 c2
  refine ⟨trivial, (callsIn_wide.2 (HSC.out _ hwn1)).mono ?_⟩
  rintro e wz ⟨rfl, rfl⟩
  gi_wp2_with fail
  refine ⟨trivial, (callsIn_wide.2 (num_any 3 (by decide) _)).mono ?_⟩
  rintro e wz ⟨rfl, rfl⟩
  have c4 := (HDC.out _ hwn1).cell 4
  gi_wp2_with fail
  clear c4
  refine ⟨trivial, (callsIn_wide.2 (HRO.out _ hwn1)).mono ?_⟩
  rintro e wz ⟨rfl, rfl⟩
  gi_wp2_with fail
  refine ⟨trivial, (callsIn_wide.2 (num_any 1 (by decide) _)).mono ?_⟩
  rintro e wz ⟨rfl, rfl⟩
  have c4 := (HDC.out _ hwn1).cell 4
  have c2 := (HDC.out _ hwn1).cell 2
  gi_wp2_with fail
  clear c4 c2
  refine ⟨trivial, (callsIn_wide.2 (HSR.out _ hwn1)).mono ?_⟩
  rintro e wz ⟨rfl, rfl⟩
  gi_wp2_with fail
  refine ⟨trivial, (callsIn_wide.2 (num_any 1 (by decide) _)).mono ?_⟩
  rintro e wz ⟨rfl, rfl⟩
  gi_wp2_with fail
  have hbs := (hwn1.alloc hwn1.size (.cells #[.int .u32 0] 30)).alloc (by have := hwn1.size; simp; omega) (.cells zeros64 31)
  refine ⟨trivial, (callsIn_wide.2 (HLO.out _ hbs _ _ _ _ _ _ _)).mono ?_⟩
  rintro e wz ⟨rfl, rfl⟩
  gi_wp2_with fail
  refine ⟨trivial, (callsIn_wide.2 (num_any 1 (by decide) _)).mono ?_⟩
  rintro e wz ⟨rfl, rfl⟩
  gi_wp2_with fail
  refine ⟨trivial, (callsIn_wide.2 (HS1.out _ hbs)).mono ?_⟩
  rintro e wz ⟨rfl, rfl⟩
  gi_wp2_with fail
  refine ⟨trivial, (callsIn_wide.2 (HS2.out _ hbs)).mono ?_⟩
  rintro e wz ⟨rfl, rfl⟩
  gi_wp2_with fail
  refine ⟨trivial, (callsIn_wide.2 (HAL.out _ hbs)).mono ?_⟩
  rintro e wp1 ⟨rfl, hb⟩
  have hwp1 := below_top hbs hb
  clear hb
  gi_wp2_with fail
  refine ⟨trivial, (callsIn_wide.2 (HMK.out _ hwp1)).mono ?_⟩
  rintro e wq1 ⟨rfl, hb⟩
  have hwq1 := below_top hwp1 hb
  clear hb
  gi_wp2_with fail
  refine ⟨trivial, (callsIn_wide.2 (num_any 4 (by decide) _)).mono ?_⟩
  rintro e wz ⟨rfl, rfl⟩
  gi_wp2_with fail
  refine ⟨trivial, (callsIn_wide.2 (num_any 4 (by decide) _)).mono ?_⟩
  rintro e wz ⟨rfl, rfl⟩
  gi_wp2_with fail
  have HST2 := Lib.hid (HS11.out.after hwq1)
  clear HHD HLN HGT HNX HBY HSW HPT HSC HRO HSR HAL HMK HLO HS1 HS2 HDC hb0 N1 hmk
  rw [roundsIn_succ]
  gi_wp2_with fail
  refine ⟨trivial, (callsIn_wide.2 (both_any 64 (by omega) (by omega) _)).mono ?_⟩
  rintro e wb ⟨p, q, rfl, HH, RR, hp, hq, hbb⟩
  have HSB := Lib.hid (HST2.out.after hbb)
  have HM1 : Calls Tryd.prog 46 #[.pointer (some ⟨p.g, 0, none⟩)] wb (Said (.bool true) wb) := (made_any HH (by have : (HM.new 64).size = 64 := rfl; omega) (by have : (HM.new 64).size = 64 := rfl; omega)).mono fun e w' h => h
  have HS1 := Lib.hid (same_half2 (show NoHp wb (.pointer none) from .inl rfl) HM1)
  have HS2 := Lib.hid (same_half1 (show NoHp wb (.pointer none) from .inl rfl) HM1)
  clear HH RR hp hq hbb HM1
  unfold ptr
  gi_wp2_with fail
  refine ⟨trivial, (callsIn_wide.2 HS1.out).mono ?_⟩
  rintro e wz ⟨rfl, rfl⟩
  gi_wp2_with fail
  refine ⟨trivial, (callsIn_wide.2 HS2.out).mono ?_⟩
  rintro e wz ⟨rfl, rfl⟩
  gi_wp2_with fail
  refine ⟨trivial, (callsIn_wide.2 (HAW.out _ (HE.out.below HSB.out.base))).mono ?_⟩
  rintro e wc ⟨rfl, hbc⟩
  have HSC := Lib.hid (HSB.out.after hbc)
  have cR := HSC.out.res.cell 0
  have fR := HSC.out.res.frozen 0
  clear hbc
  gi_wp2_with fail
  have hK1 : wc.heap[D11]? = some (.deferred (some [])) := HSC.out.marks D11 (by simp)
  have hK0 : wc.heap[D10]? = some (.deferred (some [])) := HSC.out.marks D10 (by simp)
  have h12 := hDl11 D10 (by simp)
  have hKa := (KeepsOthers.setCell wc ⟨W.heap.size + 1, 0, none⟩ (.bool true)).same D11 _ hK1 rfl
  have hKc := (KeepsOthers.setCell wc ⟨W.heap.size + 1, 0, none⟩ (.bool true)).same D10 _ hK0 rfl
  have hKb := ((grownBy_putObj' (wc.setCell ⟨W.heap.size + 1, 0, none⟩ (.bool true)) D11 (.deferred none)).block D10 (lt_of_get hKc) (fun e => by injection e with e; omega)).trans hKc
  have hb2 : (wc.setCell ⟨W.heap.size + 1, 0, none⟩ (.bool true)).cell? ⟨W.heap.size + 1, 0, none⟩ = some (.bool true) := (HSC.out.res.set_ 0 (.bool true)).cell 0
  have hc2 := cell_kept hb2 (grownBy_putObj' _ D11 (.deferred none)) (fun r e => by cases e; exact ⟨_, hKa, rfl⟩)
  have hc := cell_kept hc2 (grownBy_putObj' _ D10 (.deferred none)) (fun r e => by cases e; exact ⟨_, hKb, rfl⟩)
  have hB1 := HSC.out.base.setCell (p := ⟨W.heap.size + 1, 0, none⟩) (by simp) (.bool true)
  refine ⟨by simp, .inl ⟨_, _, rfl, run_takeDeferred hKa, by simp, .inl ⟨_, _, rfl, run_takeDeferred hKb, ?_⟩⟩⟩
  refine ⟨.bool true, by simp [results, Tryd.results9, go_sem, hc], rfl, ?_⟩
  exact (hB1.trans (belowK_b (w := W) (by omega) _ D11 _ _ (by omega) hKa rfl rfl)).trans (belowK_b (w := W) (by omega) _ D10 _ _ (by omega) hKb rfl rfl)
end Go.Proofs.YtkpjkbkglnabiaaDoor
