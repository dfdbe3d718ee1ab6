/- ImageSums: the program's checksum of any bytes is the document's, and the sum of "123456789" is 3421780262. No condition. -/
import Derived.Test.YtkpjkbkglnabiaaSum
import Derived.Test.YtkpjkbkglnabiaaOpen
import Derived.WalkLawsBesides
import Derived.Lib.SlBytesConst
namespace Go.Proofs.Ytkpjkbkglnabiaa
open Go.RowKit Go.ChangeShapes Go.WideShapes Go.ChangeAt

theorem sum_digits : sumOf [49, 50, 51, 52, 53, 54, 55, 56, 57] = 3421780262 := by decide +kernel
def digits : List Nat := [49, 50, 51, 52, 53, 54, 55, 56, 57]

theorem law_any (A : Option Addr) (n c : Nat) (zs : List Nat) (w : World) (hm : n ≤ 9223372036854775807) (hr : Reads w w.heap.size 1 A n (u8s zs)) (hb : ∀ x ∈ zs, x < 256) :
    Calls Try.prog 3 #[.slice A n c] w fun e w' => e = .returned (.bool true) ∧ Below w.heap.size w w' := by
  have HR := Lib.hid hr; clear hr
  have HB := Lib.hid hb; clear hb
  have kc := fun (w : World) (C : Array Value) (n c : Nat) => Lib.run_convert_bytes_const (P := Try.prog) w 22 5 C n c Try.underlying22 Try.underlying5
  go_enter Try.func3, Try.ntmps3
  go_wp2_with fail
  refine (sum_any A n c w.heap.size zs w hm HR.out HB.out).mono ?_
  rintro e w' ⟨rfl, rfl⟩
  go_wp2_with fail
  refine (refSum_any A n c w.heap.size zs w hm HR.out HB.out).mono ?_
  rintro e w' ⟨rfl, rfl⟩
  generalize sumOf zs = s
  go_wp2_with fail
  refine (sum_any _ _ _ (w.heap.size + 1) digits _ (by decide) ?_ ?_).mono ?_
  · refine ⟨by simp [u8s, digits], fun _ => ⟨_, rfl, by simp, fun j u hj => ?_⟩⟩
    rw [WideShapes.add_plain, Nat.zero_add, World.cell?_alloc_mark]
    simpa [u8s, digits] using hj
  · intro x hx; simp [digits] at hx; omega
  rintro e w' ⟨rfl, rfl⟩
  rw [show sumOf digits = 3421780262 from sum_digits]
  go_wp2_with fail
  go_ret
  exact ⟨rfl, (Below.refl _ _).alloc (Nat.le_refl _) _⟩

theorem own : ownKnob Try.prog.godebug = none := by kernel_rfl
theorem laidOut : laidOutB Try.prog = true := by kernel_rfl
theorem cells5 : Try.prog.cellsOf 5 = 1 := by kernel_rfl

theorem params_ok : ∀ t ∈ Try.f3.params.toList, Try.prog.readableRec t = true ∧ t < Try.prog.types.size := by
  rw [Try.params3]
  intro t ht
  simp at ht
  subst ht
  exact ⟨by kernel_rfl, of_decide_eq_true (by kernel_rfl)⟩

theorem contract (H : Type) (enc : TypeId × Value → H) (W : World) (base : Nat) (args : Array Value) (ds gs : List (DataW H)) (before : List MemPlace)
    (hval : ∀ (j : Nat) t v, Try.f3.params[j]? = some t → args[j]? = some v → Value.okWide Try.prog W .any base t v)
    (hW : DataW.Whole enc Try.prog Try.f3.params.toList Rows.imageSumsSpec.vars false W args.toList ds gs before) :
    Calls Try.prog 3 args W fun e W' => ∃ v, e = .returned v ∧ Rows.imageSumsSpec.post enc Try.prog Try.f3 false true false false W args v W' := by
  have hW' := hW
  obtain ⟨p, q, hA0, hV, rfl, hfz, hnd⟩ := hW
  have hA : DataW.TrodAll enc Try.prog W 0 (fun _ => true) true Try.f3.params.toList args.toList ds p := hA0
  rw [Try.params3] at hA hval
  obtain ⟨v0, vs0, d0, ds0, p0, q0, hargs, rfl, rfl, h0, r0⟩ := trodAll_cons hA
  obtain ⟨rfl, rfl, rfl⟩ := trodAll_nil r0
  obtain rfl : args = #[v0] := by cases args; simp_all
  have call : Calls Try.prog 3 #[v0] W fun e w' => e = .returned (.bool true) ∧ Below W.heap.size W w' := by
    obtain ⟨a0, len, cap, rfl⟩ := okWide_slice Try.underlying22 (hval 0 22 v0 rfl rfl)
    obtain ⟨A, n, c, zs, hv, hnc, hcm, hr, hlen, hwf⟩ := open_ints_reads (k := .u8) Try.underlying22 Try.underlying5 cells5 ⟨_, _, _, rfl⟩ h0
    obtain ⟨ys, rfl, hys⟩ := nats_of_wf rfl hwf
    rw [hv]
    have hmx : IntKind.u8.max = 255 := rfl
    unfold maxLen at hcm
    exact law_any A n c ys W (by omega) (by simpa [u8s, Function.comp_def] using hr) (fun x hx => by have := hys x hx; omega)
  refine call.mono fun e W' ⟨he, hb⟩ => ?_
  subst he
  exact ⟨_, rfl, law_post laidOut params_ok rfl (by kernel_rfl) Try.underlying4 hW' ⟨rfl, rfl, rfl⟩ hb⟩

theorem lifted (os : Os) (started : os.Started) (H : Type) (enc : TypeId × Value → H) :
    ReturnsInHanded {} Try.checked os 3 .any (Rows.imageSumsSpec.pre6 enc Try.prog Try.f3 Rows.imageSumsRow.domain false) (Rows.imageSumsSpec.post enc Try.prog Try.f3 false true false false) := by
  refine returnsInHanded_of_change (C := Try.checked) own started (by kernel_rfl) Try.func3
    (ChangeSpec.witness6 (enc := enc) (C := Try.checked) false ⟨#[], #[.slice none 0 0], []⟩ 8 (by kernel_rfl) (by kernel_rfl) (by kernel_rfl) (by kernel_rfl)) ?_
  intro W base args ds gs before hval hW _ _
  exact contract H enc W base args ds gs before hval hW

theorem imageSums_said : Rows.ImageSumsSaid :=
  OpenClaim.holds_of_wide 3 Try.f3 rfl rfl rfl rfl rfl rfl rfl ⟨rfl, rfl, rfl, rfl, rfl⟩ rfl rfl rfl rfl rfl (by kernel_rfl) Try.func3 (by kernel_rfl)
    (of_decide_eq_true (by kernel_rfl)) (by unfold Func.isWrapper; first | (rw [if_pos (by decide +kernel)]; kernel_rfl) | (rw [if_neg (by decide +kernel)]; exact ⟨rfl, rfl⟩))
    (fun os started H enc _ => lifted os started H enc)
#print axioms imageSums_said
end Go.Proofs.Ytkpjkbkglnabiaa
