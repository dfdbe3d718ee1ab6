/- Show of the program's heap. -/
import Derived.Test.YtlkahgagmfhdaaaGreatDoorJText
import Derived.Test.YtlkahgagmfhdaaaGreatDoorTail
import Derived.Test.YtlkahgagmfhdaaaGreatDoorJLook
import Derived.Deep.LoopGhost
set_option linter.unusedVariables false
namespace Go.Proofs.YtlkahgagmfhdaaaGreatDoor
open Go.RowKit Go.Sort Go.Lib

theorem oopT_len (o : Nat) (ho : o < 4294967296) : (oopT o).length ≤ 22 := by
  unfold oopT
  split
  · simp
  · split
    · have h1 := smallV_lo o ho
      have h2 := smallV_hi o ho
      have := Lib.itoa_length_le (smallV o) (by omega) (by omega)
      omega
    · have := Lib.itoa_length_le ((o / 2 : Nat) : Int) (by omega) (by omega)
      rw [List.length_cons]; omega
theorem HM.elT_len {h : HM} (f : h.Fit) (o : Nat) (i : Int) : (h.elT o i).length ≤ 22 := by
  unfold HM.elT
  have b1 := h.byteN_lt o i
  have b2 := HM.readN_lt f o i [3]
  have b3 := HM.readN_lt f o i [1, 4]
  split
  · have := Lib.itoa_length_le (h.byteN o i : Nat) (by omega) (by omega); omega
  · split
    · have := Lib.itoa_length_le (h.readN o i [3] : Nat) (by omega) (by omega); omega
    · exact oopT_len _ b3

/-- The formats' names. -/
def fmtT (t : Nat) : List UInt8 := [[], [112, 111, 105, 110, 116, 101, 114, 115], [98, 121, 116, 101, 115], [119, 111, 114, 100, 115], [119, 101, 97, 107]].getD t []
def HM.headT (h : HM) (o : Nat) : List UInt8 :=
  oopT o ++ 32 :: 35 :: Lib.itoa ((h.hd (o / 2)).ser : Nat) ++ 32 :: fmtT (h.hd (o / 2)).fmt ++ 32 :: Lib.itoa ((h.hd (o / 2)).len : Nat) ++ 32 :: [99, 108, 97, 115, 115] ++ 32 :: oopT (h.hd (o / 2)).cls
/-- The text up to element k. -/
def HM.upT (h : HM) (o : Nat) (k : Nat) : List UInt8 := (List.range k).flatMap fun i : Nat => 32 :: h.elT o (i : Int)
def HM.showT (h : HM) (o : Nat) : List UInt8 := h.headT o ++ (if (h.hd (o / 2)).len = 0 then [] else 58 :: h.upT o (h.hd (o / 2)).len)
def HM.showV (h : HM) (o : Nat) : Value := if h.isB o then .tuple #[str (h.showT o), .int .i64 0] else .tuple #[str [], .int .i64 3]
def HM.partT (h : HM) (o : Nat) (k : Nat) : List UInt8 := h.headT o ++ (if k = 0 then [] else 58 :: h.upT o k)
theorem HM.upT_succ (h : HM) (o k : Nat) : h.upT o (k + 1) = h.upT o k ++ 32 :: h.elT o k := by
  unfold HM.upT
  rw [List.range_succ, List.flatMap_append]
  simp
theorem HM.upT_len {h : HM} (f : h.Fit) (o k : Nat) : (h.upT o k).length ≤ 23 * k := by
  induction k with
  | zero => simp [HM.upT]
  | succ k ih =>
    rw [HM.upT_succ]
    have := HM.elT_len f o k
    simp; omega
end Go.Proofs.YtlkahgagmfhdaaaGreatDoor
