/- lay: a live object put behind the others. -/
/- Collect: the mover's first state and its steps outside lay. -/
import Derived.Test.YtlkahgagmfhdaaaGreatDoorJSoAll
import Derived.Test.YtlkahgagmfhdaaaGreatDoorJUntil
import Derived.IntWalk
set_option linter.unusedVariables false
set_option linter.unusedSimpArgs false
set_option linter.unusedSectionVars false
namespace Go.Proofs.YtlkahgagmfhdaaaGreatDoor
open Go.RowKit
attribute [local go_sem] Oper.semAt_some
theorem slice_lhW (wx : World) (ad : Addr) (n c l h : Nat) (h1 : l ≤ h) (h2 : h ≤ c) :
    (Instr.slice 84 (.slice (some ad) n c) (some (.int .i64 (l : Int))) (some (.int .i64 (h : Int))) none).run Tryz.prog wx = .ok (.slice (if c = l then some ad else some (ad.add l)) (h - l) (c - l)) wx := by
  have he : Program.elem Tryz.prog 84 = 32 := by simp [Program.elem, Tryz.underlying84]
  have hz : ∀ w, (Go.sizeOf 32).run Tryz.prog w = .ok 1 w := fun w => by go_simp
  rw [run_slice_lh (P := Tryz.prog) wx 84 (some ad) n c (by rw [he]; exact Tryz.underlying84) .i64 .i64 l h (by omega) (by omega) (by omega), he, hz]
  simp only [Result.andThen, sliced]
  simp
/-- What lay leaves. -/
def LayQ (B mg mb : Nat) (hp v : Value) (ws : List Nat) (pl : List (Nat × Nat)) (t0 t1 t2 t3 t4 : Nat) (w : World) (e : Ending) (w' : World) : Prop :=
  e = .returned (.tuple #[]) ∧ ∃ v', MovAt w' B mg mb hp v' ws pl t0 t1 t2 t3 t4 ∧ MFr mg v v' w w'
section
variable {w : World} {p : HP} {h : HM} {l : List Ob} {B mg mb go co void : Nat} {v : Value} {ws : List Nat} {pl : List (Nat × Nat)} {t0 t1 t2 t3 t4 : Nat}
set_option maxRecDepth 100000 in
set_option maxHeartbeats 8000000 in
theorem lay_any (M : MovAt w B mg mb (ptr p.g) v ws pl t0 t1 t2 t3 t4) (H : HAt w p h) (G : h.Good l) (hs : Spares w) {k : Nat} (hk : k < l.length) (hO : Row w go 32 co (u32s h.words)) (hne : v.ownBlock ≠ some go) (hB : B ≤ w.heap.size)
    (hwh : ∀ x, x < 4294967296 → whereM pl x < 4294967296) (hvd : void < 4294967296) (hwl : ws.length ≤ 1048576) (ht4 : t4 ≤ 1000000000000) :
    Calls Tryz.prog 93 #[.pointer (some ⟨mg, 0, none⟩), .int .u32 (2 * posOf (l.take k) : Nat), .slice (some ⟨go, 0, none⟩) h.words.length co, .int .u32 void] w
      (LayQ B mg mb (ptr p.g) v (ws ++ (relob pl void (l[k])).ws) pl t0 t1 t2 t3 (t4 + clearedB pl (l[k])) w) := by
  have L := G.laid
  rw [split_at l k hk] at L
  have hib : h.isB (2 * posOf (l.take k)) = true := isB_at G k hk
  have ho := isB_u32 G hib
  have HH := Lib.hid (Header_any H G.fit G.laid.heads hs _ ho)
  have hV : h.headerV (2 * posOf (l.take k)) = .tuple #[(l[k]).x.val, .int .i64 0] := by
    unfold HM.headerV
    rw [hib, half_pos, hd_at' G k hk]; rfl
  rw [hV] at HH
  have HI := Lib.hid (fun (w' : World) => index_any (2 * posOf (l.take k)) ho w')
  have hIV : indexV (2 * posOf (l.take k)) = .tuple #[.int .i64 (posOf (l.take k) : Nat), .int .i64 0] := by
    unfold indexV
    rw [objB_pos, half_pos]; rfl
  rw [hIV] at HI
  have K := L.ok_at
  have hwlen := L.words_len
  have hroom := G.fit.room
  have hhi := G.fit.hi
  have hcow := hO.len_le
  rw [u32s_len] at hcow
  have hw0 : h.words.getD (posOf (l.take k)) 0 = (l[k]).x.w0 := by
    have := L.w_at 0 (by omega)
    rw [Nat.add_zero, ws_0] at this
    exact this
  have hfd : ∀ j, j < (l[k]).fs.length → h.words.getD (posOf (l.take k) + 3 + j) 0 = (l[k]).fs.getD j 0 := fun j hj => by
    have := L.w_at (3 + j) (by omega)
    rw [Nat.add_comm 3 j, ws_f, ← Nat.add_assoc] at this
    rw [show posOf (l.take k) + 3 + j = posOf (l.take k) + j + 3 by omega]
    exact this
  have HM := Lib.hid M
  have hO' := hO
  have HO := Lib.hid hO
  have HNE := Lib.hid hne
  have HWH := Lib.hid hwh
  have HFD := Lib.hid hfd
  have HW0 := Lib.hid hw0
  have HK := Lib.hid K
  have hsz := K.size
  have hcl32 := K.fit.cls
  have hs5 : (l[k]).fs.length ≤ 65535 := by
    have := K.may
    unfold Hd.may at this
    simp at this
    omega
  clear L M H G hs hO hne hwh hfd hw0 K hV hIV hib
  generalize hb : l[k] = b at *
  clear hb
  generalize posOf (l.take k) = at_ at *
  obtain ⟨⟨n, t, s, c, r⟩, fs⟩ := b
  simp only at hsz hcl32 hs5 hwlen
  have hwle : at_ + 3 + fs.length ≤ h.words.length := by omega
  clear hwlen
  subst hsz
  unfold Hd.val at HH
  unfold ptr at HH ⊢
  go_enter Tryz.func93, Tryz.ntmps93
  have c0 := HM.out.box.cell 0
  unfold ptr at c0
  go_wp2_with fail
  refine HH.out.mono ?_
  rintro e w1 ⟨rfl, hb1⟩
  have hb2 := hb1.alloc hb1.size (.cells #[.int .i64 (fs.length : Int), .int .i64 (t : Int), .int .i64 (s : Int), .int .u32 (c : Int), .int .u32 (r : Int)] 75)
  have BX := Lib.hid (Blk.new w1 75 #[.int .i64 (fs.length : Int), .int .i64 (t : Int), .int .i64 (s : Int), .int .u32 (c : Int), .int .u32 (r : Int)])
  have HB2 := Lib.hid hb2
  have hg8 : w.heap.size ≤ w1.heap.size := hb1.size
  clear c0 hb1 hb2 HH
  go_upto_region 1 with fail
  generalize w1.alloc (.cells #[.int .i64 (fs.length : Int), .int .i64 (t : Int), .int .i64 (s : Int), .int .u32 (c : Int), .int .u32 (r : Int)] 75) = W2 at *
  generalize w1.heap.size = b8 at *
  go_wp2_with fail
  refine (HI.out W2).mono ?_
  rintro e w3 ⟨rfl, rfl⟩
  obtain ⟨x0, x1, x2, x3, x4⟩ := BX.out.cells5
  have HM2 := Lib.hid (HM.out.below HB2.out)
  have HWC := Lib.hid (where_any HM2.out hcl32)
  go_wp2_with fail
  refine HWC.out.mono ?_
  rintro e w4 ⟨rfl, rfl⟩
  go_upto_region 3 with fail
  have hw0c := HO.out.below HB2.out
  have hlt0 : at_ < h.words.length := by omega
  have hcw := hw0c.cell (u32s_get (l := h.words) (i := at_) hlt0)
  rw [HW0.out] at hcw
  have HOW := Lib.hid hw0c
  obtain ⟨i0, hi0, hz0, hz1, hz2⟩ := info_parts info_u32
  have HCN := Lib.hid (HWH.out c hcl32)
  have HCL := Lib.hid (show clearedB pl ⟨⟨fs.length, t, s, c, r⟩, fs⟩ = if Hd.ptrB ⟨fs.length, t, s, c, r⟩ = true then (fs.filter (deadB pl)).length else 0 from rfl)
  have HRL := Lib.hid (show (relob pl void ⟨⟨fs.length, t, s, c, r⟩, fs⟩).ws = [Hd.w0 ⟨fs.length, t, s, c, r⟩, whereM pl c, r] ++ (if Hd.ptrB ⟨fs.length, t, s, c, r⟩ = true then fs.map (fldM pl void) else fs) by unfold relob Ob.ws Hd.w0; simp only; split <;> rfl)
  have HMF := Lib.hid (show MFr mg v v w W2 from MFr.of_below HB2.out)
  have HMG := Lib.hid (show mg < b8 from Nat.lt_of_lt_of_le HM.out.box.lt hg8)
  have hmg2 : mg ≠ go := fun e => (hO'.ne_blk HM.out.box (by decide)) e.symm
  generalize Hd.w0 ⟨fs.length, t, s, c, r⟩ = w0 at *
  generalize hcm : whereM pl c = c' at *
  generalize relob pl void ⟨⟨fs.length, t, s, c, r⟩, fs⟩ = RB at *
  generalize clearedB pl ⟨⟨fs.length, t, s, c, r⟩, fs⟩ = CB at *
  clear hcm HWC HW0 HM
  refine wp_region_U 16 (fun w' => w'.cell? ⟨mg, 2, none⟩ = some v ∧ w'.cell? ⟨go, at_, none⟩ = some (.int .u32 (w0 : Int)) ∧ w'.cell? ⟨b8, 4, none⟩ = some (.int .u32 (r : Int))) (by kernel_rfl) ?_
  have HMq := Lib.hid HM2.out.drew
  have HOq := Lib.hid (show Row W2.drew go 32 co (u32s h.words) from HOW.out)
  have BXq := Lib.hid (show Blk W2.drew b8 75 #[.int .i64 (fs.length : Int), .int .i64 (t : Int), .int .i64 (s : Int), .int .u32 (c : Int), .int .u32 (r : Int)] from BX.out)
  have HFq := Lib.hid (show MFr mg v v w W2.drew from HMF.out.trans (MFr.of_below ⟨rfl, rfl, rfl, Nat.le_refl _, fun _ _ => rfl⟩))
  have hcw2 : W2.drew.cell? ⟨go, at_, none⟩ = some (.int .u32 (w0 : Int)) := hcw
  clear x0 x1 x2 x3 x4 HM2 HOW BX HMF hcw HB2
  generalize W2.drew = wq at *
  have hS : wq.cell? ⟨mg, 2, none⟩ = some v ∧ wq.cell? ⟨go, at_, none⟩ = some (.int .u32 (w0 : Int)) ∧ wq.cell? ⟨b8, 4, none⟩ = some (.int .u32 (r : Int)) := ⟨HMq.out.box.cell 2, hcw2, BXq.out.cell 4⟩
  refine U_read 0 (v := (.pointer (some ⟨mg, 0, none⟩))) rfl (by kernel_rfl) (fun _ _ _ h => h) hS (by rfl) (fun w' hw' => by obtain ⟨h0, h1, h2⟩ := hw'; go_simp) ?_
  try simp only [Act.put, List.setIfInBounds_toArray, List.set_cons_zero, List.set_cons_succ]
  refine U_read 1 (v := (.pointer (some ⟨mg, 0, none⟩))) rfl (by kernel_rfl) (fun _ _ _ h => h) hS (by rfl) (fun w' hw' => by obtain ⟨h0, h1, h2⟩ := hw'; go_simp) ?_
  try simp only [Act.put, List.setIfInBounds_toArray, List.set_cons_zero, List.set_cons_succ]
  refine U_read 2 (v := (.pointer (some ⟨mg, 0, none⟩))) rfl (by kernel_rfl) (fun _ _ _ h => h) hS (by rfl) (fun w' hw' => by obtain ⟨h0, h1, h2⟩ := hw'; go_simp) ?_
  try simp only [Act.put, List.setIfInBounds_toArray, List.set_cons_zero, List.set_cons_succ]
  refine U_read 3 (v := (.pointer (some ⟨mg, 2, none⟩))) rfl (by kernel_rfl) (fun _ _ _ h => h) hS (by rfl) (fun w' hw' => by obtain ⟨h0, h1, h2⟩ := hw'; go_simp) ?_
  try simp only [Act.put, List.setIfInBounds_toArray, List.set_cons_zero, List.set_cons_succ]
  refine U_read 4 (v := v) rfl (by kernel_rfl) (fun _ _ _ h => h) hS (by rfl) (fun w' hw' => by obtain ⟨h0, h1, h2⟩ := hw'; go_simp) ?_
  try simp only [Act.put, List.setIfInBounds_toArray, List.set_cons_zero, List.set_cons_succ]
  refine U_read 5 (v := (.slice (some ⟨go, 0, none⟩) h.words.length co)) rfl (by kernel_rfl) (fun _ _ _ h => h) hS (by rfl) (fun w' hw' => by obtain ⟨h0, h1, h2⟩ := hw'; go_simp) ?_
  try simp only [Act.put, List.setIfInBounds_toArray, List.set_cons_zero, List.set_cons_succ]
  refine U_read 6 (v := (.int .i64 (at_ : Int))) rfl (by kernel_rfl) (fun _ _ _ h => h) hS (by rfl) (fun w' hw' => by obtain ⟨h0, h1, h2⟩ := hw'; go_simp) ?_
  try simp only [Act.put, List.setIfInBounds_toArray, List.set_cons_zero, List.set_cons_succ]
  refine U_read 7 (v := (.pointer (some ⟨go, at_, none⟩))) rfl (by kernel_rfl) (fun _ _ _ h => h) hS (by rfl) (fun w' hw' => by obtain ⟨h0, h1, h2⟩ := hw'; go_simp) ?_
  try simp only [Act.put, List.setIfInBounds_toArray, List.set_cons_zero, List.set_cons_succ]
  refine U_read 8 (v := (.int .u32 (w0 : Int))) rfl (by kernel_rfl) (fun _ _ _ h => h) hS (by rfl) (fun w' hw' => by obtain ⟨h0, h1, h2⟩ := hw'; go_simp) ?_
  try simp only [Act.put, List.setIfInBounds_toArray, List.set_cons_zero, List.set_cons_succ]
  refine U_read 9 (v := (.int .u32 (c' : Int))) rfl (by kernel_rfl) (fun _ _ _ h => h) hS (by rfl) (fun w' hw' => by obtain ⟨h0, h1, h2⟩ := hw'; go_simp) ?_
  try simp only [Act.put, List.setIfInBounds_toArray, List.set_cons_zero, List.set_cons_succ]
  refine U_read 10 (v := (.pointer (some ⟨b8, 4, none⟩))) rfl (by kernel_rfl) (fun _ _ _ h => h) hS (by rfl) (fun w' hw' => by obtain ⟨h0, h1, h2⟩ := hw'; go_simp) ?_
  try simp only [Act.put, List.setIfInBounds_toArray, List.set_cons_zero, List.set_cons_succ]
  refine U_read 11 (v := (.int .u32 (r : Int))) rfl (by kernel_rfl) (fun _ _ _ h => h) hS (by rfl) (fun w' hw' => by obtain ⟨h0, h1, h2⟩ := hw'; go_simp) ?_
  try simp only [Act.put, List.setIfInBounds_toArray, List.set_cons_zero, List.set_cons_succ]
  refine U_one 12 (by kernel_rfl) rfl rfl (fun K hK => ?_)
  go_simp
  have HMA := Lib.hid (HMq.out.below ((Below.refl _ _).alloc (Nat.le_refl _) (.cells #[.int .u32 (w0 : Int), .int .u32 (c' : Int), .int .u32 (r : Int)] 32)))
  have hSA : (wq.alloc (.cells #[.int .u32 (w0 : Int), .int .u32 (c' : Int), .int .u32 (r : Int)] 32)).cell? ⟨mg, 2, none⟩ = some v ∧ (wq.alloc (.cells #[.int .u32 (w0 : Int), .int .u32 (c' : Int), .int .u32 (r : Int)] 32)).cell? ⟨go, at_, none⟩ = some (.int .u32 (w0 : Int)) ∧ (wq.alloc (.cells #[.int .u32 (w0 : Int), .int .u32 (c' : Int), .int .u32 (r : Int)] 32)).cell? ⟨b8, 4, none⟩ = some (.int .u32 (r : Int)) :=
    ⟨HMA.out.box.cell 2, (World.cell?_of_block (Below.heap_alloc wq _ go HOq.out.lt)).trans hS.2.1, (World.cell?_of_block (Below.heap_alloc wq _ b8 BXq.out.lt)).trans hS.2.2⟩
  refine hK _ _ (fun _ => hSA) ?_
  clear hK K
  try simp only [Act.put, List.setIfInBounds_toArray, List.set_cons_zero, List.set_cons_succ]
  refine U_one 13 (by kernel_rfl) rfl rfl (fun K hK => ?_)
  refine wp_append_any _ (.tmp 43) (.tmp 51) _ rfl B 32 i0 _ 1 4 Tryz.underlying84 hi0 hz0 hz1 hz2 rfl (by omega) v ws.length (u32s ws) rfl HMA.out.own (wq.heap.size + 1) (some ⟨wq.heap.size, 0, none⟩) 3 3 (u32s [w0, c', r]) rfl ⟨rfl, fun _ => ⟨_, rfl, by simp, fun j u hu => by
    rw [WideShapes.add_plain, Nat.zero_add]
    refine ((Blk.new wq 32 #[.int .u32 (w0 : Int), .int .u32 (c' : Int), .int .u32 (r : Int)]).cell j).trans ?_
    rw [← hu]
    simp [u32s]⟩⟩ (one_u32s _) (by simp only [maxLen]; omega) (by omega) (by have := HFq.out.size; simp; omega) ?_
  intro v5 w5 hown5 hg5 hat5
  obtain ⟨A5, c5, rfl⟩ := own_val hown5
  have hb5 := mov_at HMq.out hg5
  have HS5 := Lib.hid (mov_set (ns := [w0, c', r]) HMq.out hown5 hg5 hat5)
  have hfz := hb5.frozen 2
  have hcu := hb5.cell 2
  have hsame5 : ∀ q, q < wq.heap.size → v.ownBlock ≠ some q → w5.heap[q]? = wq.heap[q]? := fun q hq hn => (hg5.block q (by simp; omega) (fun e => hn (by first | exact e | exact e.symm))).trans (Below.heap_alloc wq _ q hq)
  have hS5 : w5.cell? ⟨mg, 2, none⟩ = some v ∧ w5.cell? ⟨go, at_, none⟩ = some (.int .u32 (w0 : Int)) ∧ w5.cell? ⟨b8, 4, none⟩ = some (.int .u32 (r : Int)) :=
    ⟨hcu, (World.cell?_of_block (hsame5 go HOq.out.lt HNE.out)).trans hS.2.1, (World.cell?_of_block (hsame5 b8 BXq.out.lt (own_ne_blk HMq.out.own BXq.out (by decide)))).trans hS.2.2⟩
  have hn8 : v.ownBlock ≠ some b8 := own_ne_blk HMq.out.own BXq.out (by decide)
  clear hb5 hown5 hg5 hat5 HMA hsame5
  refine hK _ _ (fun _ => hS5) ?_
  clear hK K
  try simp only [Act.put, List.setIfInBounds_toArray, List.set_cons_zero, List.set_cons_succ]
  refine U_one 14 (by kernel_rfl) rfl rfl (fun K hK => ?_)
  go_simp
  refine hK _ _ (fun _ => hS5) ?_
  clear hK K
  try simp only [Act.put, List.setIfInBounds_toArray, List.set_cons_zero, List.set_cons_succ]
  refine U_one 15 (by kernel_rfl) rfl rfl (fun K hK => ?_)
  go_simp
  refine hK _ _ (fun _ => hS5) ?_
  clear hK K
  try simp only [Act.put, List.setIfInBounds_toArray, List.set_cons_zero, List.set_cons_succ]
  refine U_one 16 (by kernel_rfl) rfl rfl (fun K hK => ?_)
  go_simp
  refine hK _ _ (fun h => absurd h (by decide)) ?_
  clear hK K
  try simp only [Act.put, List.setIfInBounds_toArray, List.set_cons_zero, List.set_cons_succ]
  refine U_done (by kernel_rfl) ?_ _
  simp only [Calm, Exit.then]
  have hmg8 : b8 ≠ mg := by have := HMG.out; omega
  obtain ⟨hrow6, hne6⟩ := HS5.out.2.row HOq.out (fun e => hmg2 e.symm) HNE.out
  have HO6 := Lib.hid hrow6
  have HN6 := Lib.hid hne6
  have BX6 := Lib.hid (HS5.out.2.blk' BXq.out hmg8 hn8)
  have HM6 := Lib.hid HS5.out.1
  have HF6 := Lib.hid (HFq.out.trans HS5.out.2)
  clear hrow6 hne6 hS hSA hS5 hfz hcu HS5 HOq BXq HMq HFq hn8 hcw2
  generalize w5.setCell ⟨mg, 2, none⟩ (.slice A5 (ws.length + 3) c5) = W6 at *
  generalize (Value.slice A5 (ws.length + 3) c5) = v6 at *
  obtain ⟨x0, x1, x2, x3, x4⟩ := BX6.out.cells5
  have hsl := fun (wx : World) => slice_lhW wx ⟨go, 0, none⟩ h.words.length co (at_ + 3) (at_ + 3 + fs.length) (by omega) (by omega)
  obtain ⟨A7, hA7⟩ : ∃ A7, A7 = (if co = at_ + 3 then some (⟨go, 0, none⟩ : Addr) else some ((⟨go, 0, none⟩ : Addr).add (at_ + 3))) := ⟨_, rfl⟩
  rw [← hA7, show at_ + 3 + fs.length - (at_ + 3) = fs.length by omega] at hsl
  have HA7 := Lib.hid (show 0 < fs.length → A7 = some ⟨go, at_ + 3, none⟩ from fun h0 => by
    rw [hA7, if_neg (by omega), WideShapes.add_plain, Nat.zero_add])
  have e1 : ((at_ + 3 : Nat) : Int) = (at_ : Int) + 3 := by push_cast; rfl
  have e2 : ((at_ + 3 + fs.length : Nat) : Int) = (at_ : Int) + 3 + (fs.length : Int) := by push_cast; rfl
  rw [e1, e2] at hsl
  clear e1 e2 hA7
  obtain ⟨Fm, hFm⟩ : ∃ Fm : Nat → Nat, ∀ x, Fm x = if Hd.ptrB ⟨fs.length, t, s, c, r⟩ = true then fldM pl void x else x := ⟨_, fun _ => rfl⟩
  obtain ⟨Df, hDf⟩ : ∃ Df : Nat → Bool, ∀ x, Df x = (Hd.ptrB ⟨fs.length, t, s, c, r⟩ && deadB pl x) := ⟨_, fun _ => rfl⟩
  have HRW := Lib.hid (show RB.ws = [w0, c', r] ++ fs.map Fm by
    rw [HRL.out]
    congr 1
    by_cases hp : Hd.ptrB ⟨fs.length, t, s, c, r⟩ = true
    · rw [if_pos hp]; exact List.map_congr_left (fun x _ => by rw [hFm, if_pos hp])
    · rw [if_neg hp]
      have : fs.map Fm = fs.map id := List.map_congr_left (fun x _ => by rw [hFm, if_neg hp]; rfl)
      rw [this, List.map_id])
  have HCW := Lib.hid (show CB = (fs.filter Df).length by
    rw [HCL.out]
    by_cases hp : Hd.ptrB ⟨fs.length, t, s, c, r⟩ = true
    · rw [if_pos hp]; congr 1; exact List.filter_congr (fun x _ => by rw [hDf, hp]; rfl)
    · rw [if_neg hp]
      have : fs.filter Df = [] := List.filter_eq_nil_iff.2 (fun x _ => by rw [hDf]; simp [hp])
      rw [this]; rfl)
  have HFm := Lib.hid hFm
  have HDf := Lib.hid hDf
  have HPB := Lib.hid (show Hd.ptrB ⟨fs.length, t, s, c, r⟩ = (decide (t = 1) || decide (t = 4)) from rfl)
  have H32 := Lib.hid HK.out.f32
  clear hFm hDf HRL HCL HK
  go_wp2_with fail
  clear x0 x1 x2 x3 x4
  go_loopw [15, 16, 17, 65] (fun _ _ _ iv wr => ∃ (k : Nat) (v' : Value), iv = .int .i64 k ∧ k ≤ fs.length ∧ MovAt wr B mg mb (ptr p.g) v' ((ws ++ [w0, c', r]) ++ (fs.take k).map Fm) pl t0 t1 t2 t3 (t4 + ((fs.take k).filter Df).length) ∧ Row wr go 32 co (u32s h.words) ∧ v'.ownBlock ≠ some go ∧ Blk wr b8 75 #[.int .i64 (fs.length : Int), .int .i64 (t : Int), .int .i64 (s : Int), .int .u32 (c : Int), .int .u32 (r : Int)] ∧ MFr mg v v' w wr) (fun _ _ _ iv _ => fs.length - (intOf iv).toNat)
  case atStart => exact ⟨0, v6, rfl, by omega, by simpa using HM6.out, HO6.out, HN6.out, BX6.out, HF6.out⟩
  case round =>
    clear HM6 HO6 HN6 BX6 HF6
    obtain ⟨k, v', rfl, hk, hm, hro, hnv, hbx, hf⟩ := hrel
    have HM := Lib.hid hm
    have HRO := Lib.hid hro
    have HNV := Lib.hid hnv
    have HBX := Lib.hid hbx
    have HF := Lib.hid hf
    clear hm hro hnv hbx hf
    by_cases hlt : k < fs.length
    · have hA := HA7.out (by omega)
      subst hA
      have hlt2 : at_ + 3 + k < h.words.length := by omega
      have hcl := HRO.out.cell (u32s_get (l := h.words) (i := at_ + 3 + k) hlt2)
      rw [HFD.out k hlt] at hcl
      have hx32 : fs.getD k 0 < 4294967296 := getD_u32 H32.out k
      have hfl : ((fs.take k).filter Df).length ≤ 65535 := by have := List.length_filter_le Df (fs.take k); rw [List.length_take] at this; omega
      have hwsl : ((ws ++ [w0, c', r]) ++ (fs.take k).map Fm).length ≤ 2000000 := by simp; omega
      have HNX := Lib.hid (show (ws ++ [w0, c', r]) ++ (fs.take (k + 1)).map Fm = ((ws ++ [w0, c', r]) ++ (fs.take k).map Fm) ++ [Fm (fs.getD k 0)] by
        rw [List.take_add_one, List.getElem?_eq_getElem hlt, List.map_append, List.append_assoc, List.append_assoc, List.append_assoc, List.getD_eq_getElem?_getD, List.getElem?_eq_getElem hlt]; rfl)
      have HCX := Lib.hid (show t4 + ((fs.take (k + 1)).filter Df).length = t4 + ((fs.take k).filter Df).length + (if Df (fs.getD k 0) = true then 1 else 0) by
        rw [List.take_add_one, List.getElem?_eq_getElem hlt, List.filter_append, List.length_append, List.getD_eq_getElem?_getD, List.getElem?_eq_getElem hlt]
        simp only [Option.toList_some, Option.getD_some, List.filter_cons, List.filter_nil]
        split <;> simp <;> omega)
      have HT4 := Lib.hid (show t4 + ((fs.take k).filter Df).length ≤ 1000000065535 by omega)
      generalize fs.getD k 0 = x at *
      generalize (ws ++ [w0, c', r]) ++ (fs.take k).map Fm = WS at *
      generalize t4 + ((fs.take k).filter Df).length = T at *
      have hc1 := HBX.out.cell 1
      have hm2 := HM.out.box.cell 2
      have hBw : B ≤ wr.heap.size := by have := HF.out.size; omega
      have hg8m : b8 ≠ mg := by have := HMG.out; omega
      by_cases h1 : t = 1
      · by_cases hdd : deadB pl x = true
        · skip
          have hi1 : ((t : Int) == 1) = true := by simp; omega
          have hpb : Hd.ptrB ⟨fs.length, t, s, c, r⟩ = true := by rw [HPB.out]; simp [h1]
          have HY := Lib.hid (show Fm x = void by
            rw [HFm.out, hpb, if_pos rfl]
            unfold fldM deadB at *
            rw [if_pos (of_decide_eq_true hdd)])
          have HD := Lib.hid (show (if Df x = true then 1 else 0) = 1 by rw [HDf.out, hpb, hdd]; rfl)
          have HWX := Lib.hid (where_any HM.out hx32)
          rw [hdd] at HWX
          have HC7 := Lib.hid (mov_clear HM.out)
          have hz7 := HM.out.box.frozen 7
          have hm7 := HM.out.box.cell 7
          have hT := HT4.out
          generalize whereM pl x = wx at HWX
          clear hpb hdd h1
          go_wp2_with fail
          refine HWX.out.mono ?_
          rintro e w7 ⟨rfl, rfl⟩
          have HF7 := Lib.hid (HF.out.trans HC7.out.2)
          have HR7 := Lib.hid (HC7.out.2.row HRO.out (fun e => hmg2 e.symm) HNV.out)
          have HX7 := Lib.hid (HC7.out.2.blk' HBX.out hg8m (own_ne_blk HM.out.own HBX.out (by decide)))
          have HM7 := Lib.hid HC7.out.1
          have HRA := Lib.hid HR7.out.1
          have HRB := Lib.hid HR7.out.2
          go_upto_region 12 with fail
          clear hcl hm7 hz7 hm2 hc1 HWX HC7
          generalize wr.setCell ⟨mg, 7, none⟩ (.int .i64 ((T : Int) + 1)) = W7 at *
          have hm2' := HM7.out.box.cell 2
          have hBw' : B ≤ W7.heap.size := by have := HF7.out.size; omega
          go_wp2_with (at_builtin; refine wpList_append_any _ rfl (.tmp 100) (.tmp 102) _ rfl B 32 i0 _ 1 4 Tryz.underlying84 hi0 hz0 hz1 hz2 rfl (by omega) v' WS.length _ rfl (own_keep HM7.out.own (fun q hq => Below.heap_alloc W7 (.cells #[.int .u32 (void : Int)] 32) q (HM7.out.own.lt q hq).2)) (W7.heap.size + 1) (some ⟨W7.heap.size, 0, none⟩) 1 1 (u32s [void]) rfl ⟨rfl, fun _ => ⟨_, rfl, by simp, cell_one_new _ _ _⟩⟩ (one_u32s _) (by simp only [maxLen]; omega) (by omega) (by simp; omega) ?_; intro v8 w8 hown8 hgrow8 hat8; obtain ⟨A8, c8, rfl⟩ := own_val hown8; have HS8 := Lib.hid (mov_set (ns := [void]) HM7.out hown8 hgrow8 hat8); have hb8 := mov_at HM7.out hgrow8; have hz8 := hb8.frozen 2; have hc8 := hb8.cell 2; clear hown8 hgrow8 hat8 hb8)
          have HF8 := Lib.hid (HF7.out.trans HS8.out.2)
          have HR8 := Lib.hid (HS8.out.2.row HRA.out (fun e => hmg2 e.symm) HRB.out)
          have HX8 := Lib.hid (HS8.out.2.blk' HX7.out hg8m (own_ne_blk HM7.out.own HX7.out (by decide)))
          have HM8 := Lib.hid HS8.out.1
          go_wp2_with fail
          go_roundw
          case rel => exact ⟨k + 1, _, by go_num, by omega, by rw [HNX.out, HCX.out, HY.out, HD.out]; exact HM8.out, HR8.out.1, HR8.out.2, HX8.out, HF8.out⟩
          case measure => simp [intOf]; omega
        · have hdd : deadB pl x = false := by simpa using hdd
          have hi1 : ((t : Int) == 1) = true := by simp; omega
          have hpb : Hd.ptrB ⟨fs.length, t, s, c, r⟩ = true := by rw [HPB.out]; simp [h1]
          have HY := Lib.hid (show Fm x = whereM pl x by
            rw [HFm.out, hpb, if_pos rfl]
            unfold fldM
            rw [if_neg (fun e => by unfold deadB at hdd; rw [decide_eq_true e] at hdd; cases hdd)])
          have HD := Lib.hid (show (if Df x = true then 1 else 0) = 0 by rw [HDf.out, hpb, hdd]; rfl)
          have HWX := Lib.hid (where_any HM.out hx32)
          rw [hdd] at HWX
          generalize whereM pl x = wx at *
          clear hpb hdd h1
          go_wp2_with fail
          refine HWX.out.mono ?_
          rintro e w7 ⟨rfl, rfl⟩
          clear hcl
          have hm2' := HM.out.box.cell 2
          have hBw' : B ≤ wr.heap.size := by have := HF.out.size; omega
          go_wp2_with (at_builtin; refine wpList_append_any _ rfl (.tmp 100) (.tmp 102) _ rfl B 32 i0 _ 1 4 Tryz.underlying84 hi0 hz0 hz1 hz2 rfl (by omega) v' WS.length _ rfl (own_keep HM.out.own (fun q hq => Below.heap_alloc wr (.cells #[.int .u32 (wx : Int)] 32) q (HM.out.own.lt q hq).2)) (wr.heap.size + 1) (some ⟨wr.heap.size, 0, none⟩) 1 1 (u32s [wx]) rfl ⟨rfl, fun _ => ⟨_, rfl, by simp, cell_one_new _ _ _⟩⟩ (one_u32s _) (by simp only [maxLen]; omega) (by omega) (by simp; omega) ?_; intro v8 w8 hown8 hgrow8 hat8; obtain ⟨A8, c8, rfl⟩ := own_val hown8; have HS8 := Lib.hid (mov_set (ns := [wx]) HM.out hown8 hgrow8 hat8); have hb8 := mov_at HM.out hgrow8; have hz8 := hb8.frozen 2; have hc8 := hb8.cell 2; clear hown8 hgrow8 hat8 hb8)
          have HF8 := Lib.hid (HF.out.trans HS8.out.2)
          have HR8 := Lib.hid (HS8.out.2.row HRO.out (fun e => hmg2 e.symm) HNV.out)
          have HX8 := Lib.hid (HS8.out.2.blk' HBX.out hg8m (own_ne_blk HM.out.own HBX.out (by decide)))
          have HM8 := Lib.hid HS8.out.1
          go_wp2_with fail
          go_roundw
          case rel => exact ⟨k + 1, _, by go_num, by omega, by rw [HNX.out, HCX.out, HY.out, HD.out]; exact HM8.out, HR8.out.1, HR8.out.2, HX8.out, HF8.out⟩
          case measure => simp [intOf]; omega
      by_cases h4 : t = 4
      · by_cases hdd : deadB pl x = true
        · skip
          have hi1 : ((t : Int) == 1) = false := by simp; omega
          have hi4 : ((t : Int) == 4) = true := by simp; omega
          have hpb : Hd.ptrB ⟨fs.length, t, s, c, r⟩ = true := by rw [HPB.out]; simp [h4]
          have HY := Lib.hid (show Fm x = void by
            rw [HFm.out, hpb, if_pos rfl]
            unfold fldM deadB at *
            rw [if_pos (of_decide_eq_true hdd)])
          have HD := Lib.hid (show (if Df x = true then 1 else 0) = 1 by rw [HDf.out, hpb, hdd]; rfl)
          have HWX := Lib.hid (where_any HM.out hx32)
          rw [hdd] at HWX
          have HC7 := Lib.hid (mov_clear HM.out)
          have hz7 := HM.out.box.frozen 7
          have hm7 := HM.out.box.cell 7
          have hT := HT4.out
          generalize whereM pl x = wx at HWX
          clear hpb hdd h4 h1
          go_wp2_with fail
          refine HWX.out.mono ?_
          rintro e w7 ⟨rfl, rfl⟩
          have HF7 := Lib.hid (HF.out.trans HC7.out.2)
          have HR7 := Lib.hid (HC7.out.2.row HRO.out (fun e => hmg2 e.symm) HNV.out)
          have HX7 := Lib.hid (HC7.out.2.blk' HBX.out hg8m (own_ne_blk HM.out.own HBX.out (by decide)))
          have HM7 := Lib.hid HC7.out.1
          have HRA := Lib.hid HR7.out.1
          have HRB := Lib.hid HR7.out.2
          go_upto_region 12 with fail
          clear hcl hm7 hz7 hm2 hc1 HWX HC7
          generalize wr.setCell ⟨mg, 7, none⟩ (.int .i64 ((T : Int) + 1)) = W7 at *
          have hm2' := HM7.out.box.cell 2
          have hBw' : B ≤ W7.heap.size := by have := HF7.out.size; omega
          go_wp2_with (at_builtin; refine wpList_append_any _ rfl (.tmp 100) (.tmp 102) _ rfl B 32 i0 _ 1 4 Tryz.underlying84 hi0 hz0 hz1 hz2 rfl (by omega) v' WS.length _ rfl (own_keep HM7.out.own (fun q hq => Below.heap_alloc W7 (.cells #[.int .u32 (void : Int)] 32) q (HM7.out.own.lt q hq).2)) (W7.heap.size + 1) (some ⟨W7.heap.size, 0, none⟩) 1 1 (u32s [void]) rfl ⟨rfl, fun _ => ⟨_, rfl, by simp, cell_one_new _ _ _⟩⟩ (one_u32s _) (by simp only [maxLen]; omega) (by omega) (by simp; omega) ?_; intro v8 w8 hown8 hgrow8 hat8; obtain ⟨A8, c8, rfl⟩ := own_val hown8; have HS8 := Lib.hid (mov_set (ns := [void]) HM7.out hown8 hgrow8 hat8); have hb8 := mov_at HM7.out hgrow8; have hz8 := hb8.frozen 2; have hc8 := hb8.cell 2; clear hown8 hgrow8 hat8 hb8)
          have HF8 := Lib.hid (HF7.out.trans HS8.out.2)
          have HR8 := Lib.hid (HS8.out.2.row HRA.out (fun e => hmg2 e.symm) HRB.out)
          have HX8 := Lib.hid (HS8.out.2.blk' HX7.out hg8m (own_ne_blk HM7.out.own HX7.out (by decide)))
          have HM8 := Lib.hid HS8.out.1
          go_wp2_with fail
          go_roundw
          case rel => exact ⟨k + 1, _, by go_num, by omega, by rw [HNX.out, HCX.out, HY.out, HD.out]; exact HM8.out, HR8.out.1, HR8.out.2, HX8.out, HF8.out⟩
          case measure => simp [intOf]; omega
        · have hdd : deadB pl x = false := by simpa using hdd
          have hi1 : ((t : Int) == 1) = false := by simp; omega
          have hi4 : ((t : Int) == 4) = true := by simp; omega
          have hpb : Hd.ptrB ⟨fs.length, t, s, c, r⟩ = true := by rw [HPB.out]; simp [h4]
          have HY := Lib.hid (show Fm x = whereM pl x by
            rw [HFm.out, hpb, if_pos rfl]
            unfold fldM
            rw [if_neg (fun e => by unfold deadB at hdd; rw [decide_eq_true e] at hdd; cases hdd)])
          have HD := Lib.hid (show (if Df x = true then 1 else 0) = 0 by rw [HDf.out, hpb, hdd]; rfl)
          have HWX := Lib.hid (where_any HM.out hx32)
          rw [hdd] at HWX
          generalize whereM pl x = wx at *
          clear hpb hdd h4 h1
          go_wp2_with fail
          refine HWX.out.mono ?_
          rintro e w7 ⟨rfl, rfl⟩
          clear hcl
          have hm2' := HM.out.box.cell 2
          have hBw' : B ≤ wr.heap.size := by have := HF.out.size; omega
          go_wp2_with (at_builtin; refine wpList_append_any _ rfl (.tmp 100) (.tmp 102) _ rfl B 32 i0 _ 1 4 Tryz.underlying84 hi0 hz0 hz1 hz2 rfl (by omega) v' WS.length _ rfl (own_keep HM.out.own (fun q hq => Below.heap_alloc wr (.cells #[.int .u32 (wx : Int)] 32) q (HM.out.own.lt q hq).2)) (wr.heap.size + 1) (some ⟨wr.heap.size, 0, none⟩) 1 1 (u32s [wx]) rfl ⟨rfl, fun _ => ⟨_, rfl, by simp, cell_one_new _ _ _⟩⟩ (one_u32s _) (by simp only [maxLen]; omega) (by omega) (by simp; omega) ?_; intro v8 w8 hown8 hgrow8 hat8; obtain ⟨A8, c8, rfl⟩ := own_val hown8; have HS8 := Lib.hid (mov_set (ns := [wx]) HM.out hown8 hgrow8 hat8); have hb8 := mov_at HM.out hgrow8; have hz8 := hb8.frozen 2; have hc8 := hb8.cell 2; clear hown8 hgrow8 hat8 hb8)
          have HF8 := Lib.hid (HF.out.trans HS8.out.2)
          have HR8 := Lib.hid (HS8.out.2.row HRO.out (fun e => hmg2 e.symm) HNV.out)
          have HX8 := Lib.hid (HS8.out.2.blk' HBX.out hg8m (own_ne_blk HM.out.own HBX.out (by decide)))
          have HM8 := Lib.hid HS8.out.1
          go_wp2_with fail
          go_roundw
          case rel => exact ⟨k + 1, _, by go_num, by omega, by rw [HNX.out, HCX.out, HY.out, HD.out]; exact HM8.out, HR8.out.1, HR8.out.2, HX8.out, HF8.out⟩
          case measure => simp [intOf]; omega
      · skip
        have hi1 : ((t : Int) == 1) = false := by simp; omega
        have hi4 : ((t : Int) == 4) = false := by simp; omega
        have hpb : Hd.ptrB ⟨fs.length, t, s, c, r⟩ = false := by rw [HPB.out]; simp [h1, h4]
        have HY := Lib.hid (show Fm x = x by rw [HFm.out, hpb]; rfl)
        have HD := Lib.hid (show (if Df x = true then 1 else 0) = 0 by rw [HDf.out, hpb]; rfl)
        clear hpb h1 h4
        have hm2' := HM.out.box.cell 2
        have hBw' : B ≤ wr.heap.size := by have := HF.out.size; omega
        go_wp2_with (at_builtin; refine wpList_append_any _ rfl (.tmp 100) (.tmp 102) _ rfl B 32 i0 _ 1 4 Tryz.underlying84 hi0 hz0 hz1 hz2 rfl (by omega) v' WS.length _ rfl (own_keep HM.out.own (fun q hq => Below.heap_alloc wr (.cells #[.int .u32 (x : Int)] 32) q (HM.out.own.lt q hq).2)) (wr.heap.size + 1) (some ⟨wr.heap.size, 0, none⟩) 1 1 (u32s [x]) rfl ⟨rfl, fun _ => ⟨_, rfl, by simp, cell_one_new _ _ _⟩⟩ (one_u32s _) (by simp only [maxLen]; omega) (by omega) (by simp; omega) ?_; intro v8 w8 hown8 hgrow8 hat8; obtain ⟨A8, c8, rfl⟩ := own_val hown8; have HS8 := Lib.hid (mov_set (ns := [x]) HM.out hown8 hgrow8 hat8); have hb8 := mov_at HM.out hgrow8; have hz8 := hb8.frozen 2; have hc8 := hb8.cell 2; clear hown8 hgrow8 hat8 hb8)
        have HF8 := Lib.hid (HF.out.trans HS8.out.2)
        have HR8 := Lib.hid (HS8.out.2.row HRO.out (fun e => hmg2 e.symm) HNV.out)
        have HX8 := Lib.hid (HS8.out.2.blk' HBX.out hg8m (own_ne_blk HM.out.own HBX.out (by decide)))
        have HM8 := Lib.hid HS8.out.1
        go_wp2_with fail
        go_roundw
        case rel => exact ⟨k + 1, _, by go_num, by omega, by rw [HNX.out, HCX.out, HY.out, HD.out]; exact HM8.out, HR8.out.1, HR8.out.2, HX8.out, HF8.out⟩
        case measure => simp [intOf]; omega
    · obtain rfl : k = fs.length := by omega
      have hE := HM.out
      rw [List.take_length] at hE
      have HE := Lib.hid (show MovAt wr B mg mb (ptr p.g) v' (ws ++ RB.ws) pl t0 t1 t2 t3 (t4 + CB) by rw [HRW.out, HCW.out, ← List.append_assoc]; exact hE)
      clear hE HM
      go_wp2_with fail
      refine bodyPost_end (v := .tuple #[]) (by simp [results, Tryz.results93, go_sem]) rfl ?_
      exact ⟨rfl, v', HE.out, HF.out⟩
end
end Go.Proofs.YtlkahgagmfhdaaaGreatDoor

namespace Go.Proofs.YtlkahgagmfhdaaaGreatDoor
open Go.RowKit
attribute [local go_sem] Oper.semAt_some
/-- Memory but for two blocks. -/
structure Fr2 (a b : Nat) (w w' : World) : Prop where
  os : w'.os = w.os
  tape : w'.tape = w.tape
  output : w'.output = w.output
  size : w.heap.size ≤ w'.heap.size
  same : ∀ k, k < w.heap.size → k ≠ a → k ≠ b → w'.heap[k]? = w.heap[k]?
theorem Fr2.refl (a b : Nat) (w : World) : Fr2 a b w w := ⟨rfl, rfl, rfl, Nat.le_refl _, fun _ _ _ _ => rfl⟩
theorem Fr2.of_below {a b : Nat} {w w' : World} (h : Below w.heap.size w w') : Fr2 a b w w' := ⟨h.os, h.tape, h.output, h.size, fun k hk _ _ => h.block k hk⟩
theorem Fr2.trans {a b : Nat} {w w1 w2 : World} (h : Fr2 a b w w1) (k : Fr2 a b w1 w2) : Fr2 a b w w2 :=
  ⟨k.os.trans h.os, k.tape.trans h.tape, k.output.trans h.output, Nat.le_trans h.size k.size, fun q hq h1 h2 => (k.same q (Nat.lt_of_lt_of_le hq h.size) h1 h2).trans (h.same q hq h1 h2)⟩
theorem Fr2.grown {a b : Nat} {w w' : World} (h : w.grownBy w' (some b)) : Fr2 a b w w' :=
  ⟨h.os, h.tape, h.output, h.size, fun k hk _ h2 => h.block k hk (fun e => h2 (by injection e))⟩
theorem Fr2.setA {b : Nat} (w : World) (a : Addr) (u : Value) : Fr2 a.block b w (w.setCell a u) :=
  ⟨rfl, rfl, rfl, by simp [World.setCell], fun k _ h1 _ => Below.heap_setCell w a u k h1⟩
theorem Fr2.below {a b B : Nat} {w w' : World} (h : Fr2 a b w w') (ha : B ≤ a) (hb : B ≤ b) (hw : B ≤ w.heap.size) : Below B w w' :=
  ⟨h.os, h.tape, h.output, h.size, fun k hk => h.same k (by omega) (by omega) (by omega)⟩
section
variable {w w' : World} {B mg mb : Nat} {hp v : Value} {ws : List Nat} {pl : List (Nat × Nat)} {t0 t1 t2 t3 t4 : Nat}
theorem mov_start (w : World) (hp : Value) :
    MovAt (((w.alloc (.map #[] 0)).alloc (.cells #[.int .u32 0] 32)).alloc (.cells #[hp, .map (some w.heap.size), .slice (some ⟨w.heap.size + 1, 0, none⟩) 1 1, .int .i64 0, .int .i64 0, .int .i64 0, .int .i64 0, .int .i64 0] 172)) w.heap.size (w.heap.size + 2) w.heap.size hp (.slice (some ⟨w.heap.size + 1, 0, none⟩) 1 1) [0] [] 0 0 0 0 0 := by
  have b0 := Blk.new ((w.alloc (.map #[] 0)).alloc (.cells #[.int .u32 0] 32)) 172 #[hp, .map (some w.heap.size), .slice (some ⟨w.heap.size + 1, 0, none⟩) 1 1, .int .i64 0, .int .i64 0, .int .i64 0, .int .i64 0, .int .i64 0]
  rw [World.size_alloc, World.size_alloc] at b0
  have r0 := Blk.new (w.alloc (.map #[] 0)) 32 #[.int .u32 0]
  rw [World.size_alloc] at r0
  have r1 := r0.alloc (.cells #[hp, .map (some w.heap.size), .slice (some ⟨w.heap.size + 1, 0, none⟩) 1 1, .int .i64 0, .int .i64 0, .int .i64 0, .int .i64 0, .int .i64 0] 172)
  have m0 := MapE.made w 54 54 .u32
  have m1 := (m0.below ((Below.refl _ _).alloc (Nat.le_refl _) (.cells #[.int .u32 0] 32))).below ((Below.refl _ _).alloc (Nat.le_refl _) (.cells #[hp, .map (some w.heap.size), .slice (some ⟨w.heap.size + 1, 0, none⟩) 1 1, .int .i64 0, .int .i64 0, .int .i64 0, .int .i64 0, .int .i64 0] 172))
  refine ⟨b0, ?_, m1.ext (fun x => by rw [goesM_no (by simp)]; rfl) (fun x => by simp), by omega, Nat.le_refl _⟩
  unfold Blk at r1
  exact ⟨rfl, .inr ⟨w.heap.size + 1, 1, #[.int .u32 0], rfl, by omega, r1, by simp, by simp [maxLen], by simp, by simp [u32s]⟩⟩
/-- An oop's new place noted. -/
theorem mov_put (M : MovAt w B mg mb hp v ws pl t0 t1 t2 t3 t4) {q : Nat × Nat} (hq : q.1 ∉ pl.map (·.1)) (h1 : q.1 < 4294967296) (h2 : q.2 < 4294967296) (hn : pl.length ≤ 1048576) :
    ∃ w', (Instr.mapUpdate 170 (.map (some mb)) (.int .u32 (q.1 : Int)) (.int .u32 (q.2 : Int))).run Tryz.prog w = .ok () w' ∧ MovAt w' B mg mb hp v ws (pl ++ [q]) t0 t1 t2 t3 t4 ∧ w.grownBy w' (some mb) := by
  obtain ⟨w', hr, hm, hg⟩ := M.map.put tyOO (v := (q.2 : Int)) h1 (by simp only [Lit.wf, show IntKind.u32.min = 0 by decide, show IntKind.u32.max = 4294967295 by decide, Bool.and_eq_true, decide_eq_true_eq]; omega) (by omega)
  have hne : mb ≠ mg := M.map.ne_blk M.box
  refine ⟨w', hr, ⟨M.box.same (hg.block mg M.box.lt (fun e => hne (by first | exact Option.some.inj e | exact (Option.some.inj e).symm))), own_keep M.own (fun k hk => hg.block k (M.own.lt k hk).2 (fun e => own_ne_map M.own M.map (hk.trans (by first | exact e | exact e.symm)))), ?_, M.hg, M.hm⟩, hg⟩
  rw [List.length_append]
  refine hm.ext (fun x => ?_) (fun x => ?_)
  · by_cases hx : x = q.1
    · subst hx
      rw [if_pos rfl]
      unfold goesM
      rw [List.find?_append, List.find?_eq_none.2 (fun y hy e => hq (List.mem_map.2 ⟨y, hy, by simpa using e⟩))]
      simp
    · rw [if_neg hx]
      unfold goesM
      rw [List.find?_append]
      cases hf : pl.find? (fun p => p.1 == x) with
      | some y => simp
      | none => simp [List.find?_cons, show (q.1 == x) = false from by simp; exact fun e => hx e.symm]
  · by_cases hx : x = q.1
    · simp [hx]
    · rw [if_neg hx]
      simp [hx]
/-- The counts alone are others. -/
theorem mov_cells {u0 u1 u2 u3 u4 : Nat} (M : MovAt w B mg mb hp v ws pl t0 t1 t2 t3 t4) (hb : Blk w' mg 172 #[hp, .map (some mb), v, .int .i64 (u0 : Int), .int .i64 (u1 : Int), .int .i64 (u2 : Int), .int .i64 (u3 : Int), .int .i64 (u4 : Int)]) (hs : ∀ k, k ≠ mg → w'.heap[k]? = w.heap[k]?) :
    MovAt w' B mg mb hp v ws pl u0 u1 u2 u3 u4 :=
  ⟨hb, own_keep M.own (fun q hq => hs q (fun e => own_ne_blk M.own M.box (by decide) (e ▸ hq))), M.map.same (hs mb (M.map.ne_blk M.box)), M.hg, M.hm⟩
theorem mov_same (M : MovAt w B mg mb hp v ws pl t0 t1 t2 t3 t4) (h1 : w'.heap[mg]? = w.heap[mg]?) (h2 : w'.heap[mb]? = w.heap[mb]?) (h3 : ∀ k, v.ownBlock = some k → w'.heap[k]? = w.heap[k]?) : MovAt w' B mg mb hp v ws pl t0 t1 t2 t3 t4 :=
  ⟨M.box.same h1, own_keep M.own h3, M.map.same h2, M.hg, M.hm⟩
end
theorem map_elem (f : Nat → Nat) (rs : List Nat) (k : Nat) (hk : k < rs.length) : ((rs.take k).map f ++ rs.drop k).getD k 0 = rs.getD k 0 := by
  have hl : ((rs.take k).map f).length = k := by simp; omega
  rw [List.getD_eq_getElem?_getD, List.getD_eq_getElem?_getD, List.getElem?_append_right (by omega), hl, Nat.sub_self, List.getElem?_drop, Nat.add_zero]
theorem map_step (f : Nat → Nat) (rs : List Nat) (k : Nat) (hk : k < rs.length) : (u32s ((rs.take k).map f ++ rs.drop k)).set k (.int .u32 (f (rs.getD k 0) : Int)) = u32s ((rs.take (k + 1)).map f ++ rs.drop (k + 1)) := by
  have hl : (u32s ((rs.take k).map f)).length = k := by rw [u32s_len]; simp; omega
  have hg : rs.getD k 0 = rs[k] := by rw [List.getD_eq_getElem?_getD, List.getElem?_eq_getElem hk]; rfl
  have hd : rs.drop k = rs[k] :: rs.drop (k + 1) := List.drop_eq_getElem_cons hk
  rw [u32s_app, hd, List.set_append_right _ _ (by omega), hl, Nat.sub_self, hg, List.take_add_one, List.getElem?_eq_getElem hk, List.map_append, u32s_app, u32s_app, List.append_assoc]
  rfl
/-- How many fields are cleared so far. -/
def clrN (pl : List (Nat × Nat)) (z : List (Nat × Ob)) : Nat := (z.map (fun p => clearedB pl p.2)).sum
theorem clr_le (pl : List (Nat × Nat)) : ∀ z : List (Nat × Ob), clrN pl z ≤ (wsOf (z.map (·.2))).length
  | [] => Nat.le_refl _
  | a :: z => by
    have ih := clr_le pl z
    unfold clrN at *
    rw [List.map_cons, List.sum_cons, List.map_cons, wsOf_cons, List.length_append, Ob.ws_len]
    have h1 : clearedB pl a.2 ≤ a.2.fs.length := by
      unfold clearedB
      split
      · exact List.length_filter_le _ _
      · exact Nat.zero_le _
    omega
theorem clr_snoc (pl : List (Nat × Nat)) (z : List (Nat × Ob)) (p : Nat × Ob) : clrN pl (z ++ [p]) = clrN pl z + clearedB pl p.2 := by
  unfold clrN; rw [List.map_append, List.sum_append]; simp
/-- What a collection answers. -/
def colV (h : HM) (l : List Ob) : Value :=
  .agg #[.int .i64 ((liveO h l).length : Nat), .int .i64 ((l.length - (liveO h l).length : Nat) : Nat), .int .i64 ((h.words.length - (1 + (wsOf (colL h l)).length) : Nat) : Nat), .int .i64 (movedN h l : Nat), .int .i64 (clearedN h l : Nat)]
end Go.Proofs.YtlkahgagmfhdaaaGreatDoor
