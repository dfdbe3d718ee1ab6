/- What Bytes answers of an object that Make made; a row read shorter; an element behind a slice that is full or the call's own. -/
import Derived.Test.YtkpjkbkglnabiaaDoorFrame
import Derived.Test.YtkpjkbkglnabiaaDoorSameL
import Derived.ArgAppend
set_option linter.unusedVariables false
namespace Go.Proofs.YtkpjkbkglnabiaaDoor
open Go.RowKit

theorem Row.short {w : World} {g c : Nat} {e : TypeId} {xs ys : List Value} (h : Row w g e c (xs ++ ys)) : Row w g e c xs := by
  obtain ⟨cur, hb, hl, hm, hc, hx⟩ := h
  refine ⟨cur, hb, by rw [List.length_append] at hl; omega, hm, hc, ?_⟩
  have := congrArg (List.take xs.length) hx
  rw [List.take_take, List.length_append, Nat.min_eq_left (by omega), List.take_left] at this
  exact this

theorem HM.Good.made_bytes {h : HM} {l : List Ob} (G : h.Good l) (bs : List Nat) (hb : ∀ x ∈ bs, x < 256) (he : h.makeE 0 bs = 0) :
    (h.makeH 0 bs).bytesE (h.makeO 0 bs) = 0 ∧ ((h.makeH 0 bs).hd (h.makeO 0 bs / 2)).len = bs.length ∧
      bytesM ((h.makeH 0 bs).fields (h.makeO 0 bs)) = bs ++ List.replicate (4 * ((bs.length + 3) / 4) - bs.length) 0 := by
  have L := (G.makeH 0 bs (by omega) hb he).laid
  have hp : h.words.length = posOf l := by rw [G.laid.words, List.length_cons, posOf]; omega
  have ho : h.makeO 0 bs = 2 * posOf l := by unfold HM.makeO; rw [if_pos he, hp]
  generalize h.makeH 0 bs = h' at *
  rw [ho]
  have hi := (L.isB_iff (2 * posOf l)).2 ⟨l, _, [], rfl, rfl⟩
  have hd := L.hd_at
  have hf := L.fields_at
  refine ⟨?_, ?_, ?_⟩
  · unfold HM.bytesE
    rw [hi, half_pos, hd, hf]
    exact spareE_packM bs hb
  · rw [half_pos, hd]
    unfold Hd.len makeX
    simp only [if_true]
    omega
  · rw [hf]; exact bytesM_packM bs hb

theorem Fr.rd {W w : World} {p : HP} {g : Nat} {h : HM} {l : List Rw} (F : Fr W w p g h l) (gr : Nat) (e : TypeId) (c : Nat) (xs : List Value) (hm : (⟨gr, e, c, xs⟩ : Rw) ∈ l) {n : Nat} (hn : xs.length = n) : Reads w w.heap.size 1 (some ⟨gr, 0, none⟩) n xs := by
  subst hn
  exact (F.rows _ hm).1.reads (F.rows _ hm).1.lt
theorem Fr.turn' {W w w' : World} {p : HP} {g : Nat} {h : HM} {l : List Rw} {row : Option Nat} (F : Fr W w p g h l) (hg : w.grownBy w' row) (hr : ∀ q, row = some q → ¬ p.has q ∧ W.heap.size ≤ q ∧ ∀ r ∈ l, r.g ≠ q) : Fr W w' p g h l :=
  ⟨F.live.grown hg (fun q hq => ⟨(hr q hq).1, (hr q hq).2.1⟩), (fun r hr' => by
    obtain ⟨h1, h2⟩ := F.rows r hr'
    exact ⟨h1.same (hg.block _ h1.lt (fun e => (hr _ e.symm).2.2 r hr' rfl)), h2⟩), F.nodup⟩
/-- What Bytes answers of what Make made. -/
def NewB (bs : List Nat) (w : World) (e : Ending) (w' : World) : Prop :=
  ∃ g c, e = .returned (.tuple #[.slice (some ⟨g, 0, none⟩) bs.length bs.length, .int .i64 0]) ∧ Row w' g 5 c (u8c bs) ∧ w.heap.size ≤ g ∧ Below w.heap.size w w'
theorem Live.bytesMade {W w : World} {p : HP} {g : Nat} {h : HM} {l : List Ob} (G : h.Good l) (bs : List Nat) (hb : ∀ x ∈ bs, x < 256) (he : h.makeE 0 bs = 0) (L : Live W w p g (h.makeH 0 bs)) (ho : h.makeO 0 bs < 4294967296) :
    Calls Tryd.prog 28 #[.pointer (some ⟨g, 0, none⟩), .int .u32 (h.makeO 0 bs : Nat)] w (NewB bs w) := by
  obtain ⟨e1, e2, e3⟩ := G.made_bytes bs hb he
  refine (L.bytes _ ho).mono fun e w' ⟨h1, h2⟩ => ?_
  rw [if_pos e1, e2, e3] at h2
  obtain ⟨g', c, rfl, hr, hg⟩ := h2
  unfold u8c at hr
  rw [List.map_append] at hr
  exact ⟨g', c, rfl, hr.short, hg, h1⟩
theorem HM.makeO_lt {h : HM} (f : h.Fit) (c : Nat) (bs : List Nat) : h.makeO c bs < 4294967296 := by
  have := f.room
  have := f.hi
  unfold HM.makeO
  split <;> omega
theorem HM.makeE_lt (h : HM) (c : Nat) (bs : List Nat) : h.makeE c bs < 1000 := by
  unfold HM.makeE HM.allocE
  repeat' split
  all_goals omega

theorem own_mono {w : World} {base base' : Nat} {e : TypeId} {size : Nat} {v : Value} {n : Nat} {xs : List Value} (h : w.ownsRow base e size v n xs) (hb : base' ≤ base) : w.ownsRow base' e size v n xs :=
  ⟨h.1, h.2.imp id fun ⟨g, cap, cur, h1, h2, h3⟩ => ⟨g, cap, cur, h1, Nat.le_trans hb h2, h3⟩⟩
/-- A slice that is full, or a row of the call's own. -/
def Ends (w : World) (base : Nat) (e : TypeId) (v : Value) (n : Nat) (xs : List Value) : Prop :=
  w.ownsRow base e 1 v n xs ∨ ∃ g c, v = .slice (some ⟨g, 0, none⟩) n n ∧ Row w g e c xs ∧ xs.length = n ∧ base ≤ g
theorem Ends.alloc {w : World} {base : Nat} {e : TypeId} {v : Value} {n : Nat} {xs : List Value} (h : Ends w base e v n xs) (o : Obj) : Ends (w.alloc o) base e v n xs := by
  rcases h with h | ⟨g, c, rfl, h, r⟩
  · exact .inl (h.alloc o)
  · exact .inr ⟨g, c, rfl, h.alloc o, r⟩
theorem wpList_append_ends {P : Program} (w : World) {ops : Array Oper} {rest : List Oper} {o : Oper} {a : Act} {Q : Exit → Act → World → Prop} (hgd : o.guard = none) (s x : Operand) (t : TypeId)
    (ho : o.op = .call { callee := .builtin .append, args := #[s, x], argTypes := #[t, t] })
    (base : Nat) (e : TypeId) (i : TypeInfo) (z : Value) (bytes : Nat) (ht : P.underlying t = some (.slice e)) (hi : P.info? e = some i) (hz : i.zero = some z)
    (hsize : i.size = 1) (hby : i.bytes = bytes) (hzs : z.cells.size = 1)
    (v : Value) (n : Nat) (xs : List Value) (hs : a.eval s = v) (hown : Ends w base e v n xs)
    (ad : Addr) (c : Nat) (u : Value) (hx : a.eval x = .slice (some ad) 1 c) (hu : w.cell? ad = some u) (h1 : u.oneCell' = true)
    (h63 : n + 1 ≤ maxLen) (hbytes : (n + 1) * bytes ≤ 140737488355328) (hbase : base ≤ w.heap.size)
    (h : ∀ v' w', w'.ownsRow base e 1 v' (n + 1) (xs ++ [u]) → w.grownBy w' v.ownBlock → (∀ q, v'.ownBlock = some q → v.ownBlock = some q ∨ w.heap.size ≤ q) → wpList P ops Q rest (a.put o.dst v') w') : wpList P ops Q (o :: rest) a w := by
  have hc : ∀ j y, [u][j]? = some y → w.cell? (ad.add j) = some y := by
    intro j y hy
    cases j with
    | zero => simp at hy; rw [← hy]; exact hu
    | succ j => simp at hy
  have h1' : ∀ y ∈ [u], y.oneCell' = true := by simpa using h1
  rcases hown with hown | ⟨g, cap, rfl, hr, hl, hg⟩
  · refine wpList_append_any w hgd s x t ho base e i z 1 bytes ht hi hz hsize hby hzs (by decide) v n xs hs hown (ad.block + 1) (some ad) 1 c [u] hx ⟨rfl, fun _ => ⟨ad, rfl, by omega, hc⟩⟩ h1' h63 hbytes hbase (fun v' w' r1 r2 r3 => h v' w' r1 r2 fun q hq => ?_)
    rcases r3 with r3 | r3
    · exact .inl (r3 ▸ hq)
    · rw [r3] at hq; injection hq with hq; exact .inr (by omega)
  · refine wpList_plain hgd fun K hK' => ?_
    obtain ⟨v', w', hrun, r1, r2⟩ := run_append_arg_grows (P := P) w t o.type e i z 1 bytes ht hi hz hsize hby hzs (by decide) ⟨g, 0, none⟩ n n xs (by rw [hl, Nat.mul_one]) (fun j y hy => by rw [Addr.add_lit, Nat.zero_add]; exact hr.cell hy) ad 1 c [u] rfl hc (by omega) h63 hbytes
    unfold Oper.wp
    simp [execOp, ho, resolve, invoke, builtin, hs, hx, hrun, Result.andThen]
    exact hK' _ _ (h v' w' (own_mono r1 hbase) ⟨r2.os, r2.tape, r2.output, r2.size, fun k hk _ => r2.block k hk (by simp)⟩ (fun q hq => .inr (r1.lt q hq).1))
end Go.Proofs.YtkpjkbkglnabiaaDoor
