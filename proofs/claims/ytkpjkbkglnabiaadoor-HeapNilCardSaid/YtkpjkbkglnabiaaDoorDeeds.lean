/- A script in memory; what a call of a script keeps. -/
import Derived.Test.YtkpjkbkglnabiaaDoorLive
set_option linter.unusedVariables false
namespace Go.Proofs.YtkpjkbkglnabiaaDoor
open Go.RowKit

def Dd.val (d : Dd) (A : Option Addr) (n c : Nat) : Value :=
  .agg #[.int .i64 d.k, .int .u32 (d.o : Nat), .int .u32 (d.v : Nat), .int .i64 d.f, .int .i64 d.i, .int .i64 d.n, .int .u32 (d.w : Nat), .slice A n c]

def Dd.vals (d : Dd) (A : Option Addr) (n c : Nat) : List Value :=
  [.int .i64 d.k, .int .u32 (d.o : Nat), .int .u32 (d.v : Nat), .int .i64 d.f, .int .i64 d.i, .int .i64 d.n, .int .u32 (d.w : Nat), .slice A n c]
/-- A script lies in memory, below block B. -/
def DeedsAt (w : World) (B : Nat) (A : Option Addr) (ds : List Dd) : Prop :=
  ∀ i d, ds[i]? = some d → d.Fit ∧ ∃ ad Ab nb cb, A = some ad ∧ ad.block < B ∧ nb ≤ 9223372036854775807 ∧ Reads w B 1 Ab nb (u8c d.b) ∧ ∀ j v, (d.vals Ab nb cb)[j]? = some v → w.cell? (ad.add (i * 8 + j)) = some v
section
variable {w w' : World} {p p' : HP} {B : Nat} {A : Option Addr} {ds : List Dd}
theorem DeedsAt.keep (h : DeedsAt w B A ds) (hk : ∀ q : Addr, q.block < B → w'.cell? q = w.cell? q) : DeedsAt w' B A ds := by
  intro i d hd
  obtain ⟨f, ad, Ab, nb, cb, h1, h2, h3, h4, h5⟩ := h i d hd
  exact ⟨f, ad, Ab, nb, cb, h1, h2, h3, h4.keep hk, fun j v hv => (hk _ (by rw [block_of_add]; exact h2)).trans (h5 j v hv)⟩
theorem DeedsAt.below (h : DeedsAt w B A ds) (hb : Below B w w') : DeedsAt w' B A ds := h.keep fun _ hq => hb.cell hq
theorem DeedsAt.fit (h : DeedsAt w B A ds) : ∀ d ∈ ds, d.Fit := fun d hd => by
  obtain ⟨i, hi⟩ := List.getElem?_of_mem hd
  exact (h i d hi).1
theorem cell_add {a : Addr} {j : Nat} {v : Value} (h : w.cell? (a.add j) = some v) (hj : 0 < j) : w.cell? ⟨a.block, a.off + j, none⟩ = some v := by
  unfold Addr.add at h
  rw [if_neg (by omega)] at h
  exact h
theorem DeedsAt.load (h : DeedsAt w B A ds) {i : Nat} {d : Dd} (hd : ds[i]? = some d) :
    ∃ ad Ab nb cb, A = some ad ∧ ad.block < B ∧ nb ≤ 9223372036854775807 ∧ Reads w B 1 Ab nb (u8c d.b) ∧
      w.cell? (ad.add (i * 8)) = some (.int .i64 d.k) ∧ w.cell? ⟨(ad.add (i * 8)).block, (ad.add (i * 8)).off + 1, none⟩ = some (.int .u32 (d.o : Nat)) ∧
      w.cell? ⟨(ad.add (i * 8)).block, (ad.add (i * 8)).off + 2, none⟩ = some (.int .u32 (d.v : Nat)) ∧ w.cell? ⟨(ad.add (i * 8)).block, (ad.add (i * 8)).off + 3, none⟩ = some (.int .i64 d.f) ∧
      w.cell? ⟨(ad.add (i * 8)).block, (ad.add (i * 8)).off + 4, none⟩ = some (.int .i64 d.i) ∧ w.cell? ⟨(ad.add (i * 8)).block, (ad.add (i * 8)).off + 5, none⟩ = some (.int .i64 d.n) ∧
      w.cell? ⟨(ad.add (i * 8)).block, (ad.add (i * 8)).off + 6, none⟩ = some (.int .u32 (d.w : Nat)) ∧ w.cell? ⟨(ad.add (i * 8)).block, (ad.add (i * 8)).off + 7, none⟩ = some (.slice Ab nb cb) := by
  obtain ⟨f, ad, Ab, nb, cb, h1, h2, h3, h4, h5⟩ := h i d hd
  have h6 : ∀ j v, 0 < j → (d.vals Ab nb cb)[j]? = some v → w.cell? ⟨(ad.add (i * 8)).block, (ad.add (i * 8)).off + j, none⟩ = some v := fun j v hj hv =>
    cell_add (by rw [add_of_add]; exact h5 j v hv) hj
  exact ⟨ad, Ab, nb, cb, h1, h2, h3, h4, h5 0 _ rfl, h6 1 _ (by omega) rfl, h6 2 _ (by omega) rfl, h6 3 _ (by omega) rfl, h6 4 _ (by omega) rfl, h6 5 _ (by omega) rfl, h6 6 _ (by omega) rfl, h6 7 _ (by omega) rfl⟩
end

theorem own_step {W w w' : World} {p p' : HP} {base n : Nat} {e : TypeId} {v : Value} {xs : List Value} (s : Step p p' w w') (h : w.ownsRow base e 1 v n xs) (ha : ∀ k, v.ownBlock = some k → ¬ p.has k) :
    w'.ownsRow base e 1 v n xs ∧ ∀ k, v.ownBlock = some k → ¬ p'.has k := by
  have hlt := h.lt
  refine ⟨⟨h.1, ?_⟩, fun k hk hh => ?_⟩
  · rcases h.2 with h2 | ⟨g, cap, cur, rfl, hb, hh, r⟩
    · exact .inl h2
    · exact .inr ⟨g, cap, cur, rfl, hb, (s.block g (hlt g rfl).2 (ha g rfl)).trans hh, r⟩
  · rcases s.rows k hh with hh | hh
    · exact ha k hk hh
    · have := (hlt k hk).2; omega
theorem Live.grown {W w w' : World} {p : HP} {g : Nat} {h : HM} {row : Option Nat} (L : Live W w p g h) (hg : w.grownBy w' row) (hr : ∀ k, row = some k → ¬ p.has k ∧ W.heap.size ≤ k) : Live W w' p g h :=
  ⟨L.at_.same fun k hk => hg.block k (L.at_.lt hk) (fun e => (hr k e.symm).1 hk), L.hg, L.good, L.env, L.new,
    ⟨hg.os.trans L.below.os, hg.tape.trans L.below.tape, hg.output.trans L.below.output, Nat.le_trans L.below.size hg.size, fun k hk =>
      (hg.block k (by have := L.below.size; omega) (fun e => by have := (hr k e.symm).2; omega)).trans (L.below.block k hk)⟩⟩
theorem HM.new_scr {n : Nat} (h1 : 64 ≤ n) (h2 : n ≤ 1048576) : (HM.new n).Scr [] := ⟨HM.new_good h1 h2 (HM.new_fit h1 h2), rfl⟩
theorem runM_len {n : Nat} (h1 : 64 ≤ n) (h2 : n ≤ 1048576) (ds : List Dd) (fd : ∀ d ∈ ds, d.Fit) : ((HM.new n).runM ds).length < 349526 := by
  obtain ⟨l, s, _, _, hl, _⟩ := (HM.new_scr h1 h2).run ds fd
  have := s.len
  have := s.last_lt
  simp at hl
  omega
theorem take_snoc {α : Type} {ds : List α} {k : Nat} {d : α} (hd : ds[k]? = some d) : ds.take (k + 1) = ds.take k ++ [d] := by
  rw [List.take_add_one, hd]; rfl

theorem ret_bool {a : Bool} (h : a = true) : Ending.returned (.bool a) = .returned (.bool true) := by rw [h]
end Go.Proofs.YtkpjkbkglnabiaaDoor
