/- begun: a heap behind a script. -/
import Derived.Test.YtkpjkbkglnabiaaDoorAct
import Derived.Test.YtkpjkbkglnabiaaDoorAwake
set_option linter.unusedVariables false
namespace Go.Proofs.YtkpjkbkglnabiaaDoor
open Go.RowKit

def Dd.vals (d : Dd) (A : Option Addr) (n c : Nat) : List Value :=
  [.int .i64 d.k, .int .u32 (d.o : Nat), .int .u32 (d.v : Nat), .int .i64 d.f, .int .i64 d.i, .int .i64 d.n, .int .u32 (d.w : Nat), .slice A n c]
/-- A script lies in memory, below block B. -/
def DeedsAt (w : World) (B : Nat) (A : Option Addr) (ds : List Dd) : Prop :=
  ∀ i d, ds[i]? = some d → d.Fit ∧ ∃ ad Ab nb cb, A = some ad ∧ ad.block < B ∧ nb ≤ 9223372036854775807 ∧ Reads w B 1 Ab nb (u8c d.b) ∧ ∀ j v, (d.vals Ab nb cb)[j]? = some v → w.cell? (ad.add (i * 8 + j)) = some v
section
variable {w w' : World} {p p' : HP} {B : Nat} {A : Option Addr} {ds : List Dd}
theorem DeedsAt.keep (h : DeedsAt w B A ds) (hk : ∀ q : Addr, q.block < B → w'.cell? q = w.cell? q) : DeedsAt w' B A ds := by
  intro i d hd
  obtain ⟨f, ad, Ab, nb, cb, h1, h2, h3, h4, h5⟩ := h i d hd
  exact ⟨f, ad, Ab, nb, cb, h1, h2, h3, h4.keep hk, fun j v hv => (hk _ (by rw [block_of_add]; exact h2)).trans (h5 j v hv)⟩
theorem DeedsAt.below (h : DeedsAt w B A ds) (hb : Below B w w') : DeedsAt w' B A ds := h.keep fun _ hq => hb.cell hq
theorem DeedsAt.fit (h : DeedsAt w B A ds) : ∀ d ∈ ds, d.Fit := fun d hd => by
  obtain ⟨i, hi⟩ := List.getElem?_of_mem hd
  exact (h i d hi).1
theorem cell_add {a : Addr} {j : Nat} {v : Value} (h : w.cell? (a.add j) = some v) (hj : 0 < j) : w.cell? ⟨a.block, a.off + j, none⟩ = some v := by
  unfold Addr.add at h
  rw [if_neg (by omega)] at h
  exact h
theorem DeedsAt.load (h : DeedsAt w B A ds) {i : Nat} {d : Dd} (hd : ds[i]? = some d) :
    ∃ ad Ab nb cb, A = some ad ∧ ad.block < B ∧ nb ≤ 9223372036854775807 ∧ Reads w B 1 Ab nb (u8c d.b) ∧
      w.cell? (ad.add (i * 8)) = some (.int .i64 d.k) ∧ w.cell? ⟨(ad.add (i * 8)).block, (ad.add (i * 8)).off + 1, none⟩ = some (.int .u32 (d.o : Nat)) ∧
      w.cell? ⟨(ad.add (i * 8)).block, (ad.add (i * 8)).off + 2, none⟩ = some (.int .u32 (d.v : Nat)) ∧ w.cell? ⟨(ad.add (i * 8)).block, (ad.add (i * 8)).off + 3, none⟩ = some (.int .i64 d.f) ∧
      w.cell? ⟨(ad.add (i * 8)).block, (ad.add (i * 8)).off + 4, none⟩ = some (.int .i64 d.i) ∧ w.cell? ⟨(ad.add (i * 8)).block, (ad.add (i * 8)).off + 5, none⟩ = some (.int .i64 d.n) ∧
      w.cell? ⟨(ad.add (i * 8)).block, (ad.add (i * 8)).off + 6, none⟩ = some (.int .u32 (d.w : Nat)) ∧ w.cell? ⟨(ad.add (i * 8)).block, (ad.add (i * 8)).off + 7, none⟩ = some (.slice Ab nb cb) := by
  obtain ⟨f, ad, Ab, nb, cb, h1, h2, h3, h4, h5⟩ := h i d hd
  have h6 : ∀ j v, 0 < j → (d.vals Ab nb cb)[j]? = some v → w.cell? ⟨(ad.add (i * 8)).block, (ad.add (i * 8)).off + j, none⟩ = some v := fun j v hj hv =>
    cell_add (by rw [add_of_add]; exact h5 j v hv) hj
  exact ⟨ad, Ab, nb, cb, h1, h2, h3, h4, h5 0 _ rfl, h6 1 _ (by omega) rfl, h6 2 _ (by omega) rfl, h6 3 _ (by omega) rfl, h6 4 _ (by omega) rfl, h6 5 _ (by omega) rfl, h6 6 _ (by omega) rfl, h6 7 _ (by omega) rfl⟩
end

theorem own_step {W w w' : World} {p p' : HP} {base n : Nat} {e : TypeId} {v : Value} {xs : List Value} (s : Step p p' w w') (h : w.ownsRow base e 1 v n xs) (ha : ∀ k, v.ownBlock = some k → ¬ p.has k) :
    w'.ownsRow base e 1 v n xs ∧ ∀ k, v.ownBlock = some k → ¬ p'.has k := by
  have hlt := h.lt
  refine ⟨⟨h.1, ?_⟩, fun k hk hh => ?_⟩
  · rcases h.2 with h2 | ⟨g, cap, cur, rfl, hb, hh, r⟩
    · exact .inl h2
    · exact .inr ⟨g, cap, cur, rfl, hb, (s.block g (hlt g rfl).2 (ha g rfl)).trans hh, r⟩
  · rcases s.rows k hh with hh | hh
    · exact ha k hk hh
    · have := (hlt k hk).2; omega
theorem Live.grown {W w w' : World} {p : HP} {g : Nat} {h : HM} {row : Option Nat} (L : Live W w p g h) (hg : w.grownBy w' row) (hr : ∀ k, row = some k → ¬ p.has k ∧ W.heap.size ≤ k) : Live W w' p g h :=
  ⟨L.at_.same fun k hk => hg.block k (L.at_.lt hk) (fun e => (hr k e.symm).1 hk), L.hg, L.good, L.env, L.new,
    ⟨hg.os.trans L.below.os, hg.tape.trans L.below.tape, hg.output.trans L.below.output, Nat.le_trans L.below.size hg.size, fun k hk =>
      (hg.block k (by have := L.below.size; omega) (fun e => by have := (hr k e.symm).2; omega)).trans (L.below.block k hk)⟩⟩
theorem HM.new_scr {n : Nat} (h1 : 64 ≤ n) (h2 : n ≤ 1048576) : (HM.new n).Scr [] := ⟨HM.new_good h1 h2 (HM.new_fit h1 h2), rfl⟩
theorem runM_len {n : Nat} (h1 : 64 ≤ n) (h2 : n ≤ 1048576) (ds : List Dd) (fd : ∀ d ∈ ds, d.Fit) : ((HM.new n).runM ds).length < 349526 := by
  obtain ⟨l, s, _, _, hl, _⟩ := (HM.new_scr h1 h2).run ds fd
  have := s.len
  have := s.last_lt
  simp at hl
  omega
theorem take_snoc {α : Type} {ds : List α} {k : Nat} {d : α} (hd : ds[k]? = some d) : ds.take (k + 1) = ds.take k ++ [d] := by
  rw [List.take_add_one, hd]; rfl

/-- What begun answers. -/
def BegunP (W : World) (n : Nat) (ds : List Dd) (e : Ending) (w' : World) : Prop :=
  ∃ p g v, e = .returned (.tuple #[.pointer (some ⟨g, 0, none⟩), v]) ∧ Live W w' p g ((HM.new n).runH ds) ∧
    w'.ownsRow W.heap.size 31 1 v ((HM.new n).runM ds).length (u32s ((HM.new n).runM ds)) ∧ ∀ k, v.ownBlock = some k → ¬ p.has k
def BegunMid (W : World) (g n : Nat) (ds : List Dd) (v : Value) (w' : World) : Prop :=
  ∃ p, Live W w' p g ((HM.new n).runH ds) ∧
    w'.ownsRow W.heap.size 31 1 v ((HM.new n).runM ds).length (u32s ((HM.new n).runM ds)) ∧ ∀ k, v.ownBlock = some k → ¬ p.has k

set_option maxRecDepth 100000 in
set_option maxHeartbeats 2000000 in
theorem begun_any (W : World) (E : Env W) (n : Nat) (h1 : 64 ≤ n) (h2 : n ≤ 1048576) (A : Option Addr) (nd c : Nat) (ds : List Dd) (hnd : nd ≤ 9223372036854775807) (hl : ds.length = nd) (hds : DeedsAt W W.heap.size A ds) :
    Calls Tryd.prog 12 #[.int .i64 n, .slice A nd c] W (BegunP W n ds) := by
  have HE := Lib.hid E
  have HL := Lib.hid hl
  have HD := Lib.hid hds
  have H1 := Lib.hid h1
  have H2 := Lib.hid h2
  clear E hl hds
  go_enter Tryd.func12, Tryd.ntmps12
  go_wp2_with fail
  refine (new_any n (by omega) (by omega) _).mono ?_
  rintro e w1 hN
  obtain ⟨p, g, rfl, L0⟩ := Live.of_new (v := fun g => .tuple #[ptr g, .int .i64 0]) HE.out H1.out H2.out hN
  clear hN
  unfold ptr
  go_wp2_with fail
  refine (num_any 0 (by decide) _).mono ?_
  rintro e w' ⟨rfl, rfl⟩
  go_wp2_with fail
  go_loopw [8, 9, 10] (fun made i _ wr => ∃ k : Nat, k ≤ nd ∧ i = .int .i64 k ∧ BegunMid W g n (ds.take k) made wr) (fun _ i _ _ => nd - (intOf i).toNat)
  case atStart => exact ⟨0, by omega, rfl, p, L0, ⟨rfl, .inl ⟨rfl, rfl⟩⟩, fun k hk => by cases hk⟩
  case round =>
    obtain ⟨k, hk, rfl, pk, Lk, hown, hap⟩ := hrel
    by_cases hlt : k < nd
    · have hD1 := HD.out.below (Lk.below)
      obtain ⟨d, hd⟩ : ∃ d, ds[k]? = some d := ⟨ds[k]'(by rw [HL.out]; exact hlt), List.getElem?_eq_getElem _⟩
      obtain ⟨ad, Ab, nb, cb, rfl, had, hnb, hRb, l0, l1, l2, l3, l4, l5, l6, l7⟩ := hD1.load hd
      have HLK := Lib.hid Lk
      have HOWN := Lib.hid hown
      have HAP := Lib.hid hap
      have HDK := Lib.hid hd
      have HRB := Lib.hid hRb
      clear Lk hown hap hd hD1 hRb
      have HML := Lib.hid (runM_len H1.out H2.out (ds.take k) (fun d hd => HD.out.fit d (List.mem_of_mem_take hd)))
      have HMS := Lib.hid (HM.runM_snoc (HM.new n) (ds.take k) d)
      have HHS := Lib.hid (HM.runH_snoc (HM.new n) (ds.take k) d)
      rw [← take_snoc HDK.out] at HMS HHS
      have HXL := Lib.hid (u32s_len ((HM.new n).runM (ds.take k)))
      go_wp2_with fail
      refine (act_any HLK.out d (HD.out.fit d (List.mem_of_getElem? HDK.out)) Ab nb cb hnb (HRB.out.more (HLK.out.below.size))).mono ?_
      rintro e w2 ⟨p2, rfl, L2, s2⟩
      obtain ⟨hown2, hap2⟩ := own_step (W := W) s2 HOWN.out HAP.out
      rw [← HHS.out] at L2
      have HL2 := Lib.hid L2
      have HOWN2 := Lib.hid hown2
      have HAP2 := Lib.hid hap2
      clear L2 s2 hown2 hap2 HLK HRB HOWN HAP l0 l1 l2 l3 l4 l5 l6 l7
      generalize ((HM.new n).runH (ds.take k)).actO d = z at *
      by_cases hz : z = 0
      · subst hz
        have HM3 := Lib.hid (show BegunMid W g n (ds.take (k + 1)) u8 w2 from ⟨p2, HL2.out, by rw [HMS.out, if_pos rfl, List.append_nil]; exact HOWN2.out, HAP2.out⟩)
        go_wp2_with fail
        go_roundw
        case rel => exact ⟨k + 1, by omega, by go_num, HM3.out⟩
        case measure => simp [intOf]; omega
      · have hzb : ((z : Int) != 0) = true := by simp; omega
        have HZ := Lib.hid hz
        clear hz
        obtain ⟨i0, hi0, hz0, hz1, hz2⟩ := info_parts info_oop
        generalize hML : ((HM.new n).runM (ds.take k)).length = ml at *
        have HMLE := Lib.hid hML
        clear hML
        have hml : ml ≤ 349525 := by have := HML.out; omega
        go_wp2_with (at_builtin; refine wpList_append_any _ rfl (.tmp 37) (.tmp 39) _ rfl W.heap.size 31 i0 _ 1 4 Tryd.underlying26 hi0 hz0 hz1 hz2 rfl (by omega) u8 ml _ rfl (HOWN2.out.alloc _) (w2.heap.size + 1) (some ⟨w2.heap.size, 0, none⟩) 1 1 (u32s [z]) rfl ⟨rfl, fun _ => ⟨_, rfl, by simp, cell_one_new _ _ _⟩⟩ (one_u32s _) (by simp only [maxLen]; omega) (by omega) (by have := HL2.out.below.size; simp; omega) ?_; intro v1 w5 hown5 hgrow hat5)
        go_roundw
        case rel =>
          refine ⟨k + 1, by omega, by go_num, p2, ?_, ?_, ?_⟩
          · exact (HL2.out.after ((Below.refl _ _).alloc (Nat.le_refl _) _)).grown hgrow fun q hq => ⟨HAP2.out q hq, ((HOWN2.out).lt q hq).1⟩
          · rw [HMS.out, if_neg HZ.out]
            unfold u32s at hown5 ⊢
            rw [List.length_append, HMLE.out, List.map_append]
            exact hown5
          · intro q hq hh
            rcases hat5 with e | e
            · exact HAP2.out q (e ▸ hq) hh
            · rw [e] at hq
              injection hq with hq
              have := HL2.out.at_.lt hh
              simp at hq
              omega
        case measure => simp [intOf]; omega
    · obtain rfl : k = nd := by omega
      rw [List.take_of_length_le (by rw [HL.out]; exact Nat.le_refl _)] at Lk hown
      have HLK := Lib.hid Lk
      have HOWN := Lib.hid hown
      have HAP := Lib.hid hap
      clear Lk hown hap
      go_wp2_with fail
      go_ret2
      exact ⟨pk, g, u8, rfl, HLK.out, HOWN.out, HAP.out⟩
end Go.Proofs.YtkpjkbkglnabiaaDoor
