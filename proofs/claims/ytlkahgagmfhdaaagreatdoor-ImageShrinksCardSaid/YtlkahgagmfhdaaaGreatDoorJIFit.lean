import Derived.Test.YtlkahgagmfhdaaaGreatDoorJIPNew
import Derived.Laws.BytesArg
set_option linter.unusedVariables false
set_option linter.unusedSectionVars false
namespace Go.Proofs.YtlkahgagmfhdaaaGreatDoor
section
open Go.RowKit
theorem rdSec_mem {t : Nat} {b p r : List Nat} (h : rdSec t b = .ok (p, r)) (h8 : ∀ x ∈ b, x < 256) : (∀ x ∈ p, x < 256) ∧ ∀ x ∈ r, x < 256 := by
 unfold rdSec at h
 split at h
 ·cases h
 ·rename_i x b1
  split at h
  ·cases h
  ·split at h
   ·cases h
   ·rename_i n b2 hn
    obtain ⟨_, _, c, hc⟩ := rdNum_lt hn
    have hb2 : ∀ x ∈ b2, x < 256 := fun x hx => h8 x (by rw [hc]; simp [hx])
    split at h
    ·cases h
    ·split at h
     ·cases h
      exact ⟨fun x hx => hb2 x (List.mem_of_mem_take hx), fun x hx => hb2 x (List.mem_of_mem_drop hx)⟩
     ·cases h
theorem rdSecs_mem : ∀ {ts b : List Nat} {ps : List (List Nat)} {r : List Nat}, rdSecs ts b = .ok (ps, r) → (∀ x ∈ b, x < 256) → ∀ p ∈ ps, ∀ x ∈ p, x < 256
 | [], b, ps, r, h, h8 => by cases h; exact fun p hp => by cases hp
 | t :: ts, b, ps, r, h, h8 => by
   unfold rdSecs at h
   split at h
   ·cases h
   ·rename_i p q hq
    split at h
    ·cases h
    ·rename_i ps' r' h2
     cases h
     have h3 := rdSec_mem hq h8
     have h4 := rdSecs_mem h2 h3.2
     intro p' hp'
     rcases List.mem_cons.1 hp' with rfl | hp'
     ·exact h3.1
     ·exact h4 p' hp'
theorem newM_fit {b : List Nat} {i : Img} (h : newM b = .ok i) (h8 : ∀ x ∈ b, x < 256) : i.last < 4294967296 ∧ i.rts.length = 64 ∧ ∀ t ∈ i.ts, t.Ok := by
 unfold newM at h
 split at h
 ·cases h
 ·rename_i ps r hs
  split at h
  ·cases h
  ·split at h
   ·cases h
   ·rename_i i' hp
    cases h
    have hm := rdSecs_mem hs h8
    have h1 : ∀ x ∈ ps.getD 1 [], x < 256 := by
     intro x hx
     rw [List.getD_eq_getElem?_getD] at hx
     cases hh : ps[1]? with
     | none => rw [hh] at hx; cases hx
     | some p => rw [hh] at hx; exact hm p (List.mem_of_getElem? hh) x hx
    unfold partsM at hp
    split at hp
    ·cases hp
    ·rename_i last q h0
     split at hp
     ·cases hp
     ·rename_i many q' h2
      split at hp
      ·cases hp
      ·split at hp
       ·cases hp
       ·rename_i ts q1 h3
        split at hp
        ·cases hp
        ·split at hp
         ·cases hp
         ·rename_i rts q2 h4
          split at hp
          ·cases hp
          ·cases hp
           exact ⟨(rdNum_lt h0).1, (rdK_len _ _ _ _ h4).1, (rdObjs_ok _ _ _ _ h3 h1).2.1⟩
theorem ob_words {b : Ob} (h : b.Ok) : ∀ x ∈ b.ws, x < 4294967296 := by
 intro x hx
 unfold Ob.ws at hx
 rcases List.mem_cons.1 hx with rfl | hx
 ·have := w0_lt h.fit; omega
 ·rcases List.mem_cons.1 hx with rfl | hx
  ·exact h.fit.cls
  ·rcases List.mem_cons.1 hx with rfl | hx
   ·exact h.fit.ser
   ·exact h.f32 x hx
structure Rd.Fit (r : Rd) : Prop where
 roots : r.roots.length = 64
 w32 : ∀ x ∈ r.words, x < 4294967296
 r32 : ∀ x ∈ r.roots, x < 4294967296
 last : r.last < 4294967296
theorem take_fit {b : List Nat} {r : Rd} (h : takeR b = .ok r) (h8 : ∀ x ∈ b, x < 256) : r.Fit := by
 unfold takeR at h
 split at h
 ·cases h
 ·split at h
  ·cases h
  ·split at h
   ·unfold oldM at h
    split at h
    ·cases h
    ·split at h
     ·cases h
     ·cases h
      exact ⟨by simp, fun x hx => by obtain ⟨i, _, rfl⟩ := List.mem_map.1 hx; exact word4_lt h8 _, fun x hx => by obtain ⟨i, _, rfl⟩ := List.mem_map.1 hx; exact word4_lt h8 _, word4_lt h8 _⟩
   ·split at h
    ·split at h
     ·cases h
     ·rename_i i hi
      cases h
      obtain ⟨h1, h2, h3⟩ := newM_fit hi (fun x hx => h8 x (List.mem_of_mem_drop hx))
      refine ⟨by show (i.rts.map (valT i.ts)).length = 64; rw [List.length_map, h2], fun x hx => ?_, fun x hx => ?_, h1⟩
      ·rcases List.mem_cons.1 (show x ∈ 0 :: wsOf (i.ts.map (obOf i.ts)) from hx) with rfl | hx
       ·omega
       ·obtain ⟨o, ho, hxo⟩ := List.mem_flatMap.1 hx
        obtain ⟨t, ht, rfl⟩ := List.mem_map.1 ho
        exact ob_words (obOf_ok (h3 t ht)) x hxo
      ·obtain ⟨n, _, rfl⟩ := List.mem_map.1 (show x ∈ i.rts.map (valT i.ts) from hx)
       exact valT_lt _ _
    ·cases h
end
section
open Go.RowKit
def istrN (xs : List Nat) : ByteArray := strOfNums (xs.map fun x : Nat => (x : Int))
theorem istrN_data (xs : List Nat) : (istrN xs).data = (xs.map UInt8.ofNat).toArray := by
 unfold istrN strOfNums
 simp [Function.comp_def]
theorem iofNat_inj {xs ys : List Nat} (hx : ∀ x ∈ xs, x < 256) (hy : ∀ y ∈ ys, y < 256) (h : xs.map UInt8.ofNat = ys.map UInt8.ofNat) : xs = ys := by
 induction xs generalizing ys with
 | nil => cases ys with
   | nil => rfl
   | cons y ys => simp at h
 | cons x xs ih =>
   cases ys with
   | nil => simp at h
   | cons y ys =>
     rw [List.map_cons, List.map_cons, List.cons.injEq] at h
     have h1 : x = y := by
      have e := congrArg UInt8.toNat h.1
      rw [UInt8.toNat_ofNat', UInt8.toNat_ofNat', Nat.mod_eq_of_lt (hx x (List.mem_cons_self ..)), Nat.mod_eq_of_lt (hy y (List.mem_cons_self ..))] at e
      exact e
     rw [h1, ih (fun z hz => hx z (List.mem_cons_of_mem _ hz)) (fun z hz => hy z (List.mem_cons_of_mem _ hz)) h.2]
theorem istrN_inj {xs ys : List Nat} (hx : ∀ x ∈ xs, x < 256) (hy : ∀ y ∈ ys, y < 256) : istrN xs = istrN ys ↔ xs = ys := by
 constructor
 ·intro h
  have e := congrArg ByteArray.data h
  rw [istrN_data, istrN_data] at e
  exact iofNat_inj hx hy (by simpa using e)
 ·intro h; rw [h]
theorem str_ne {a b : ByteArray} (h : a ≠ b) : (a.toList == b.toList) = false := by
 rw [Bool.eq_false_iff]
 intro e
 have e2 := eq_of_beq e
 rw [ByteArray.toList_eq, ByteArray.toList_eq] at e2
 obtain ⟨⟨x⟩⟩ := a
 obtain ⟨⟨y⟩⟩ := b
 exact h (by simp at e2; rw [e2])
theorem strN_mark : istrN [69, 70, 73, 71] = { data := #[69, 70, 73, 71] } := by
 have h := istrN_data [69, 70, 73, 71]
 generalize istrN [69, 70, 73, 71] = s at *
 obtain ⟨d⟩ := s
 simp only at h
 subst h
 rfl
set_option maxRecDepth 100000 in
theorem conv_head {w : World} {B n g o len c2 : Nat} {bs : List Nat} (hr : Reads w B 1 (some ⟨g, o, none⟩) n (u8c bs)) (hl : len ≤ n) (h0 : 0 < n) :
 (convert 22 9 (.slice (some ⟨g, o, none⟩) len c2)).run Tryz.prog w = .ok (.string (istrN (bs.take len))) w := by
 have hbl : bs.length = n := by have := hr.1; rw [u8c_len] at this; omega
 obtain ⟨ad, e, hb, hx⟩ := hr.2 h0
 injection e with e
 subst e
 refine run_convert_bytes_arg (P := Tryz.prog) w 22 5 Tryz.underlying22 Tryz.underlying5 g o len c2 ((bs.take len).map fun x : Nat => (x : Int)) (by simp; omega) (fun i hi => ?_) _ Tryz.underlying9
 have hli : i < bs.length := by omega
 have hy := hx i (.int .u8 (bs[i] : Nat)) (by unfold u8c; rw [List.getElem?_map, List.getElem?_eq_getElem hli]; rfl)
 rw [WideShapes.add_plain] at hy
 refine hy.trans ?_
 rw [List.getD_eq_getElem?_getD, List.getElem?_map, List.getElem?_take, if_pos hi, List.getElem?_eq_getElem hli]
 rfl
end
end Go.Proofs.YtlkahgagmfhdaaaGreatDoor
