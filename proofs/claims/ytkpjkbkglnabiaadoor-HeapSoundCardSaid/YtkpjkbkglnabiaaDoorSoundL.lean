/- HeapSound, walked: whatever is done, what lies there is a heap: a fresh one takes it, and is the Same. -/
import Derived.Test.YtkpjkbkglnabiaaDoorFull
import Derived.Test.YtkpjkbkglnabiaaDoorLoad2
import Derived.Test.YtkpjkbkglnabiaaDoorSame
set_option linter.unusedVariables false
namespace Go.Proofs.YtkpjkbkglnabiaaDoor
open Go.RowKit

theorem Live.load {W w : World} {p : HP} {g : Nat} {h : HM} (L : Live W w p g h) (A : Option Addr) (n c : Nat) (ws : List Nat) (hn : n ≤ 9223372036854775807) (hr : Reads w w.heap.size 1 A n (u32s ws)) (h32 : ∀ x ∈ ws, x < 4294967296)
    (A' : Option Addr) (n' c' : Nat) (rs : List Nat) (hn' : n' ≤ 9223372036854775807) (hr' : Reads w w.heap.size 1 A' n' (u32s rs)) (h32' : ∀ x ∈ rs, x < 4294967296) (last : Nat) (hl : last < 4294967296) :
    Calls Tryd.prog 35 #[.pointer (some ⟨g, 0, none⟩), .slice A n c, .slice A' n' c', .int .u32 last] w (Done W p g (h.loadH ws rs last) (.int .i64 (loadE h.size ws rs last : Nat)) w) := by
  have hh := Load_any L.at_ L.fit L.envw.spares (fun k hk => by
    have h1 := L.envw.spares.lt
    have h2 := L.envw.pow.lt
    exact ⟨by omega, by omega⟩) A n c ws hn hr h32 A' n' c' rs hn' hr' h32' last hl
  rw [L.hg] at hh
  refine hh.mono fun _ _ H => L.of_made ?_ H
  unfold HM.loadH
  by_cases he : loadE h.size ws rs last = 0
  · rw [if_pos he]
    unfold loadE at he
    split at he
    · omega
    · rename_i hb
      split at he
      · rename_i hok
        obtain ⟨l, hp, S⟩ := hok
        have f := L.fit
        exact ⟨l, HM.ofWords_good f.lo f.hi h32 h32' (by omega) hl (by omega) hp S⟩
      · omega
  · rw [if_neg he]; exact L.good
theorem Live.same {W w W2 : World} {p q : HP} {g k : Nat} {a b : HM} (La : Live W w p g a) (Lb : Live W2 w q k b) :
    Calls Tryd.prog 36 #[.pointer (some ⟨g, 0, none⟩), .pointer (some ⟨k, 0, none⟩)] w (Told (.bool (sameH a b)) w) := by
  have hh := Same_any La.at_ Lb.at_ La.fit Lb.fit
  rw [La.hg, Lb.hg] at hh
  exact hh.mono fun e w' ⟨he, m, hm⟩ => ⟨he, hm ▸ below_drewN (Below.refl _ _) m⟩
theorem HM.Good.load_self {h h0 : HM} {l : List Ob} (G : h.Good l) (hs : h0.size = h.size) : loadE h0.size h.words h.roots h.last = 0 ∧ h0.loadH h.words h.roots h.last = h := by
  have e := loadE_ok (size := h0.size) (ws := h.words) (rs := h.roots) (last := h.last) (by
    have := G.fit.one; have := G.fit.room; have := G.fit.roots
    omega) (by rw [hs]; exact G.loadOk)
  refine ⟨e, ?_⟩
  unfold HM.loadH
  rw [if_pos e, hs]
  exact G.ofWords.1

set_option maxRecDepth 100000 in
set_option maxHeartbeats 4000000 in
theorem soundL_any (W : World) (E : Env W) (n : Int) (A : Option Addr) (nd c : Nat) (ds : List Dd) (hnd : nd ≤ 9223372036854775807) (hl : ds.length = nd) (hds : DeedsAt W W.heap.size A ds) :
    Calls Tryd.prog 8 #[.int .i64 n, .slice A nd c] W (Told (.bool true) W) := by
  have HE := Lib.hid E
  have HM0 := Lib.hid (mayL_any n W)
  by_cases hb : mayB n = true
  · have hn : 64 ≤ n ∧ n ≤ 1048576 := by simpa [mayB] using hb
    rw [hb] at HM0
    obtain ⟨k, rfl⟩ := Int.eq_ofNat_of_zero_le (by omega : 0 ≤ n)
    have HB := Lib.hid (begun_any W E k (by omega) (by omega) A nd c ds hnd hl hds)
    have HS := Lib.hid ((HM.new_scr (n := k) (by omega) (by omega)).run ds hds.fit)
    have HB2 := Lib.hid (fun (w1 : World) (E1 : Env w1) => begun_any w1 E1 k (by omega) (by omega) none 0 0 [] (by omega) rfl (fun i d hd => by simp at hd))
    clear hds hl hb E
    go_enter Tryd.func8, Tryd.ntmps8
    go_wp2_with fail
    refine HM0.out.mono ?_
    rintro e w' ⟨rfl, rfl⟩
    go_wp2_with fail
    refine HB.out.mono ?_
    rintro e w1 ⟨p, g, v, rfl, L, -, -⟩
    obtain ⟨l, s, -, hz, -, -⟩ := HS.out
    have HLS := Lib.hid (s.good.load_self (h0 := HM.new k) hz.symm)
    clear HB HS HM0
    generalize (HM.new k).runH ds = h at *
    go_wp2_with fail
    refine (HB2.out _ L.envw).mono ?_
    rintro e w2 ⟨px, gx, vx, rfl, X, -, -⟩
    replace X : Live w1 w2 px gx (HM.new k) := X
    have HL := Lib.hid L
    clear HB2 L
    go_wp2_with fail
    refine (awake_any _ X.envw).mono ?_
    rintro e w3 ⟨rfl, hb3⟩
    replace X := X.after hb3
    clear hb3
    have L3 := HL.out.after X.below
    have hf := L3.fit
    go_wp2_with fail
    refine L3.words.mono ?_
    rintro e w4 ⟨gw, cw, rfl, rw_, -, hb4⟩
    replace X := X.after hb4
    have L4 := L3.after hb4
    go_wp2_with fail
    refine L4.roots.mono ?_
    rintro e w5 ⟨gr, cr, rfl, rr, -, hb5⟩
    replace X := X.after hb5
    have L5 := L4.after hb5
    have rw5 := rw_.below hb5
    go_wp2_with fail
    refine L5.last.mono ?_
    rintro e w' ⟨rfl, rfl⟩
    simp only [u32s_len]
    have Rw := rw5.reads rw5.lt
    have Rr := rr.reads rr.lt
    rw [u32s_len] at Rw Rr
    have h1 := hf.room
    have h2 := hf.hi
    have h3 := hf.roots
    have HLD := Lib.hid (X.load _ h.words.length cw h.words (by omega) Rw hf.w32 _ h.roots.length cr h.roots (by omega) Rr hf.r32 h.last hf.l32)
    rw [HLS.out.1, HLS.out.2] at HLD
    clear L3 L4 L5 rw_ rw5 rr Rw Rr hb4 hb5 h1 h2 h3 hf s hz
    go_wp2_with fail
    refine HLD.out.mono ?_
    rintro e w6 ⟨p6, rfl, X6, -⟩
    have L6 := HL.out.after X6.below
    clear HLD X
    go_wp2_with fail
    refine (num_any 0 (by decide) _).mono ?_
    rintro e w' ⟨rfl, rfl⟩
    go_wp2_with fail
    refine (L6.same X6).mono ?_
    rintro e w7 ⟨rfl, hb7⟩
    rw [sameH_self]
    have L7 := L6.after hb7
    have X7 := X6.after hb7
    clear L6 X6 hb7
    go_wp2_with fail
    refine (X7.same L7).mono ?_
    rintro e w8 ⟨rfl, hb8⟩
    rw [sameH_self]
    go_wp2_with fail
    go_ret
    exact ⟨rfl, (L7.after hb8).below⟩
  · have HA := Lib.hid (awake_any W E)
    rw [show mayB n = false by simpa using hb] at HM0
    clear hds E hb
    go_enter Tryd.func8, Tryd.ntmps8
    go_wp2_with fail
    refine HM0.out.mono ?_
    rintro e w' ⟨rfl, rfl⟩
    go_wp2_with fail
    refine HA.out.mono ?_
    rintro e w2 ⟨rfl, hb2⟩
    go_wp2_with fail
    go_ret
    exact ⟨rfl, hb2⟩
end Go.Proofs.YtkpjkbkglnabiaaDoor
